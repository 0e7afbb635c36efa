/-
  What patches' walks want: small laws on rows of quads, boxes of two cells. By an AI agent.
-/
import Derived.Test.YthipcepgbegaiaaDoorZSets
import Derived.Test.YthipcepgbegaiaaDoorZValid
import Derived.Test.YthipcepgbegaiaaDoorZKeep
namespace Go.Proofs.YthipcepgbegaiaaDoor
open Go.RowKit
set_option maxRecDepth 100000

/-- a list of quads that is not great, whose texts are short -/
def Neat (l : List QuadL) : Prop := l.length ≤ 524288 ∧ ∀ q ∈ l, Short q
theorem Neat.nil : Neat [] := ⟨by simp, by simp⟩
theorem own_lt {w : World} {base : Nat} {e : TypeId} {s : Nat} {v : Value} {n : Nat} {xs : List Value} (h : w.ownsRow base e s v n xs) : ∀ k, v.ownBlock = some k → k < w.heap.size := by
  intro k hk
  rcases h.2 with ⟨rfl, _⟩ | ⟨g, cap, cur, rfl, h1, h2, _⟩
  · simp [Value.ownBlock] at hk
  · simp [Value.ownBlock] at hk
    subst hk
    exact (Array.getElem?_eq_some_iff.1 h2).1
theorem QOwn.apart {w w' : World} {b1 b2 : Nat} {u v : Value} {l m : List QuadL} (h : QOwn b1 u l w) (h' : QOwn b2 v m w') (hb : w.heap.size ≤ b2) : Apart u v := fun g h1 h2 => by
  have := own_lt h g h1
  have := own_base h' g h2
  omega
/-- a cell elsewhere is written -/
theorem ownsRow_set {w : World} {base : Nat} {e : TypeId} {s : Nat} {v : Value} {n : Nat} {xs : List Value} (h : w.ownsRow base e s v n xs) (p : Addr) (x : Value) (hp : v.ownBlock ≠ some p.block) : (w.setCell p x).ownsRow base e s v n xs := by
  refine ⟨h.1, ?_⟩
  rcases h.2 with hn | ⟨g, cap, cur, rfl, h1, h2, rest⟩
  · exact .inl hn
  · refine .inr ⟨g, cap, cur, rfl, h1, ?_, rest⟩
    rw [heap_setCell_other w p g x (fun e => hp (by rw [← e]; simp [Value.ownBlock]))]
    exact h2
theorem QOwn.set {w : World} {base : Nat} {v : Value} {l : List QuadL} (h : QOwn base v l w) (p : Addr) (x : Value) (hp : p.block < base) : QOwn base v l (w.setCell p x) :=
  ownsRow_set h p x (fun e => by have := own_base h _ e; omega)
/-- two values in a block of their own, later -/
structure Box2 (w : World) (g : Nat) (x y : Value) (w' : World) : Prop where
  c0 : w'.cell? ⟨g, 0, none⟩ = some x
  c1 : w'.cell? ⟨g, 1, none⟩ = some y
  f0 : w'.frozen? ⟨g, 0, none⟩ = false
  f1 : w'.frozen? ⟨g, 1, none⟩ = false
  lt : g < w'.heap.size
theorem Box2.mk0 {w : World} {x y : Value} {T : TypeId} : Box2 w w.heap.size x y (w.alloc (.cells #[x, y] T)) :=
  ⟨by rw [World.cell?_alloc_new]; rfl, by rw [World.cell?_alloc_new]; rfl, by rw [World.frozen?_alloc_new], by rw [World.frozen?_alloc_new], by simp⟩
theorem Box2.later {w w1 w2 : World} {g : Nat} {x y : Value} (h : Box2 w g x y w1) (hb : Below w1.heap.size w1 w2) : Box2 w g x y w2 :=
  ⟨(hb.cell (p := ⟨g, 0, none⟩) h.lt).trans h.c0, (hb.cell (p := ⟨g, 1, none⟩) h.lt).trans h.c1, (hb.frozen (p := ⟨g, 0, none⟩) h.lt).trans h.f0, (hb.frozen (p := ⟨g, 1, none⟩) h.lt).trans h.f1, Nat.lt_of_lt_of_le h.lt hb.size⟩
theorem firstN_last (x : Int) : firstN x 0 = x := by
  unfold firstN
  by_cases h : x = 0
  · simp [h]
  · simp [h]
theorem orI_firstN (x y : Int) : orI x y = firstN x y := by
  unfold orI firstN
  by_cases h : x = 0
  · simp [h]
  · simp [h]
/-- the first error of some lists -/
def validAll : List (List QuadL) → Int
  | [] => 0
  | l :: r => firstN (validF l).2 (validAll r)
theorem validAll_1 (a : List QuadL) : validAll [a] = (validF a).2 := firstN_last _
theorem validAll_2 (a b : List QuadL) : validAll [a, b] = firstN (validF a).2 (validF b).2 := by
  unfold validAll
  rw [validAll_1]
theorem validQ_l (l : List QuadL) (v : Value) (w : World) (hT : TabAt w) (hM : MaxAt w) (hV : QView w v l) (hn : Neat l) :
    Calls Tryd.prog 15 #[v] w fun e w' => e = .returned (.tuple #[.int .i64 (validF l).1, .int .i64 (validF l).2]) ∧ Below w.heap.size w w' := by
  obtain ⟨a, c, rfl, _, hq⟩ := hV
  exact valid_l l a c w hT hM hn.2 (by have := hn.1; omega) hq
set_option maxHeartbeats 1000000 in
theorem patchValid_l (ls : List (List QuadL)) (vs : List Value) (g : Nat) (w : World) (hT : TabAt w) (hM : MaxAt w) (hl : vs.length = ls.length) (hc : ∀ i (h : i < vs.length), w.cell? ⟨g, i, none⟩ = some vs[i])
    (hV : ∀ i (h : i < vs.length), QView w vs[i] (ls[i]'(by omega))) (hN : ∀ l ∈ ls, Neat l) (h0 : ls.length ≤ 100) :
    Calls Tryd.prog 16 #[.slice (some ⟨g, 0, none⟩) vs.length vs.length] w fun e w' => e = .returned (.int .i64 (validAll ls)) ∧ Below w.heap.size w w' := by
  have VL := Lib.hid (fun (i : Nat) (h : i < vs.length) (h2 : i < ls.length) (u : World) (hb : Below w.heap.size w u) => validQ_l (ls[i]'h2) vs[i] u (hT.below hb) (hM.below hb) ((hV i h).below hb) (hN _ (List.getElem_mem _)))
  have HC := Lib.hid hc
  have HL := Lib.hid hl
  have hn : vs.length ≤ 100 := by omega
  clear hc hV hN hT hM hl h0
  obtain ⟨N, eN⟩ : ∃ N, vs.length = N := ⟨_, rfl⟩
  rw [eN] at hn ⊢
  have EN := Lib.hid eN
  clear eN
  go_enter Tryd.func16, Tryd.ntmps16
  go_wp2_with fail
  go_loopw [9] (fun i wr => ∃ k : Nat, i = .int .i64 k ∧ k ≤ N ∧ Hid (Below w.heap.size w wr) ∧ Hid (validAll ls = validAll (ls.drop k))) (fun i _ => N - (intOf i).toNat)
  case atStart => exact ⟨0, rfl, Nat.zero_le _, Lib.hid (Below.refl _ _), Lib.hid rfl⟩
  case round =>
    obtain ⟨k, rfl, hk, HB, HK⟩ := hrel
    by_cases hlt : k < N
    · have hk1 : k < vs.length := by rw [EN.out]; exact hlt
      have hk2 : k < ls.length := by rw [← HL.out]; exact hk1
      have V1 := VL.out k hk1 hk2
      have c0 : wr.cell? ⟨g, k, none⟩ = some vs[k] := by
        have := HC.out k hk1
        rw [HB.out.cell (p := ⟨g, k, none⟩) (World.block_lt_of_cell? _ _ this)]
        exact this
      have HK2 : Hid (validAll ls = firstN (validF ls[k]).2 (validAll (ls.drop (k + 1)))) := Lib.hid (by rw [HK.out, List.drop_eq_getElem_cons hk2]; rfl)
      obtain ⟨v, hv⟩ : ∃ v, vs[k] = v := ⟨_, rfl⟩
      obtain ⟨y, hy⟩ : ∃ y, validF ls[k] = y := ⟨_, rfl⟩
      obtain ⟨y1, n⟩ := y
      rw [hv] at c0 V1
      rw [hy] at V1 HK2
      have VL := Lib.hid V1
      clear V1 hv hy hk1 hk2 HK HC
      by_cases n0 : n = 0
      · have q9 : (n != 0) = false := by rw [n0]; rfl
        have HN : Hid (validAll ls = validAll (ls.drop (k + 1))) := Lib.hid (by rw [HK2.out, n0]; rfl)
        clear n0 HK2
        go_wp2_with (go_at_call 15; (with_reducible refine (VL.out _ HB.out).mono ?_); rintro e w3 ⟨rfl, hb3⟩; have HB3 := Lib.hid (HB.out.trans (hb3.mono HB.out.size)); clear hb3)
        go_roundw
        case rel => exact ⟨k + 1, by go_num, hlt, HB3, HN⟩
        case measure => simp [intOf]; omega
      · have q9 : (n != 0) = true := by rw [bne, kne n0]; rfl
        have HE : Hid (validAll ls = n) := Lib.hid (by rw [HK2.out]; unfold firstN; rw [if_pos n0])
        clear n0 HK2
        go_wp2_with (go_at_call 15; (with_reducible refine (VL.out _ HB.out).mono ?_); rintro e w3 ⟨rfl, hb3⟩; have HB3 := Lib.hid (HB.out.trans (hb3.mono HB.out.size)); clear hb3)
        go_ret
        exact ⟨ret_i64 HE.out.symm, HB3.out⟩
    · obtain rfl : k = N := by omega
      have HE : Hid (validAll ls = 0) := Lib.hid (by rw [HK.out, List.drop_of_length_le (by rw [← HL.out, EN.out]; exact Nat.le_refl _)]; rfl)
      clear HK VL HC
      go_wp2_with fail
      go_ret
      exact ⟨ret_i64 HE.out.symm, HB.out⟩
end Go.Proofs.YthipcepgbegaiaaDoor
