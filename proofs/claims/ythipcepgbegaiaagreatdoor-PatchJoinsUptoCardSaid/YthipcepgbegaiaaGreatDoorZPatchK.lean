/-
  What patches' walks want: small laws on rows of quads, boxes of two cells. By an AI agent.
-/
import Derived.Test.YthipcepgbegaiaaGreatDoorZSets
import Derived.Test.YthipcepgbegaiaaGreatDoorZValid
import Derived.Test.YthipcepgbegaiaaGreatDoorZKeep
namespace Go.Proofs.YthipcepgbegaiaaGreatDoor
open Go.RowKit
set_option maxRecDepth 100000

/-- a list of quads that is not great, whose texts are short -/
def Neat (l : List QuadL) : Prop := l.length ≤ 524288 ∧ ∀ q ∈ l, Short q
theorem Neat.nil : Neat [] := ⟨by simp, by simp⟩
theorem own_lt {w : World} {base : Nat} {e : TypeId} {s : Nat} {v : Value} {n : Nat} {xs : List Value} (h : w.ownsRow base e s v n xs) : ∀ k, v.ownBlock = some k → k < w.heap.size := by
  intro k hk
  rcases h.2 with ⟨rfl, _⟩ | ⟨g, cap, cur, rfl, h1, h2, _⟩
  · simp [Value.ownBlock] at hk
  · simp [Value.ownBlock] at hk
    subst hk
    exact (Array.getElem?_eq_some_iff.1 h2).1
theorem QOwn.apart {w w' : World} {b1 b2 : Nat} {u v : Value} {l m : List QuadL} (h : QOwn b1 u l w) (h' : QOwn b2 v m w') (hb : w.heap.size ≤ b2) : Apart u v := fun g h1 h2 => by
  have := own_lt h g h1
  have := own_base h' g h2
  omega
/-- a cell elsewhere is written -/
theorem ownsRow_set {w : World} {base : Nat} {e : TypeId} {s : Nat} {v : Value} {n : Nat} {xs : List Value} (h : w.ownsRow base e s v n xs) (p : Addr) (x : Value) (hp : v.ownBlock ≠ some p.block) : (w.setCell p x).ownsRow base e s v n xs := by
  refine ⟨h.1, ?_⟩
  rcases h.2 with hn | ⟨g, cap, cur, rfl, h1, h2, rest⟩
  · exact .inl hn
  · refine .inr ⟨g, cap, cur, rfl, h1, ?_, rest⟩
    rw [heap_setCell_other w p g x (fun e => hp (by rw [← e]; simp [Value.ownBlock]))]
    exact h2
theorem QOwn.set {w : World} {base : Nat} {v : Value} {l : List QuadL} (h : QOwn base v l w) (p : Addr) (x : Value) (hp : p.block < base) : QOwn base v l (w.setCell p x) :=
  ownsRow_set h p x (fun e => by have := own_base h _ e; omega)
/-- two values in a block of their own, later -/
structure Box2 (w : World) (g : Nat) (x y : Value) (w' : World) : Prop where
  c0 : w'.cell? ⟨g, 0, none⟩ = some x
  c1 : w'.cell? ⟨g, 1, none⟩ = some y
  f0 : w'.frozen? ⟨g, 0, none⟩ = false
  f1 : w'.frozen? ⟨g, 1, none⟩ = false
  lt : g < w'.heap.size
theorem Box2.mk0 {w : World} {x y : Value} {T : TypeId} : Box2 w w.heap.size x y (w.alloc (.cells #[x, y] T)) :=
  ⟨by rw [World.cell?_alloc_new]; rfl, by rw [World.cell?_alloc_new]; rfl, by rw [World.frozen?_alloc_new], by rw [World.frozen?_alloc_new], by simp⟩
theorem Box2.later {w w1 w2 : World} {g : Nat} {x y : Value} (h : Box2 w g x y w1) (hb : Below w1.heap.size w1 w2) : Box2 w g x y w2 :=
  ⟨(hb.cell (p := ⟨g, 0, none⟩) h.lt).trans h.c0, (hb.cell (p := ⟨g, 1, none⟩) h.lt).trans h.c1, (hb.frozen (p := ⟨g, 0, none⟩) h.lt).trans h.f0, (hb.frozen (p := ⟨g, 1, none⟩) h.lt).trans h.f1, Nat.lt_of_lt_of_le h.lt hb.size⟩
theorem firstN_last (x : Int) : firstN x 0 = x := by
  unfold firstN
  by_cases h : x = 0
  · simp [h]
  · simp [h]
theorem orI_firstN (x y : Int) : orI x y = firstN x y := by
  unfold orI firstN
  by_cases h : x = 0
  · simp [h]
  · simp [h]
/-- the first error of some lists -/
def validAll : List (List QuadL) → Int
  | [] => 0
  | l :: r => firstN (validF l).2 (validAll r)
theorem validAll_1 (a : List QuadL) : validAll [a] = (validF a).2 := firstN_last _
theorem validAll_2 (a b : List QuadL) : validAll [a, b] = firstN (validF a).2 (validF b).2 := by
  unfold validAll
  rw [validAll_1]
theorem validQ_l (l : List QuadL) (v : Value) (w : World) (hT : TabAt w) (hM : MaxAt w) (hV : QView w v l) (hn : Neat l) :
    Calls Tryz.prog 59 #[v] w fun e w' => e = .returned (.tuple #[.int .i64 (validF l).1, .int .i64 (validF l).2]) ∧ Below w.heap.size w w' := by
  obtain ⟨a, c, rfl, _, hq⟩ := hV
  exact valid_l l a c w hT hM hn.2 (by have := hn.1; omega) hq
set_option maxHeartbeats 1000000 in
theorem patchValid_l (ls : List (List QuadL)) (vs : List Value) (g : Nat) (w : World) (hT : TabAt w) (hM : MaxAt w) (hl : vs.length = ls.length) (hc : ∀ i (h : i < vs.length), w.cell? ⟨g, i, none⟩ = some vs[i])
    (hV : ∀ i (h : i < vs.length), QView w vs[i] (ls[i]'(by omega))) (hN : ∀ l ∈ ls, Neat l) (h0 : ls.length ≤ 100) :
    Calls Tryz.prog 37 #[.slice (some ⟨g, 0, none⟩) vs.length vs.length] w fun e w' => e = .returned (.int .i64 (validAll ls)) ∧ Below w.heap.size w w' := by
  have VL := Lib.hid (fun (i : Nat) (h : i < vs.length) (h2 : i < ls.length) (u : World) (hb : Below w.heap.size w u) => validQ_l (ls[i]'h2) vs[i] u (hT.below hb) (hM.below hb) ((hV i h).below hb) (hN _ (List.getElem_mem _)))
  have HC := Lib.hid hc
  have HL := Lib.hid hl
  have hn : vs.length ≤ 100 := by omega
  clear hc hV hN hT hM hl h0
  obtain ⟨N, eN⟩ : ∃ N, vs.length = N := ⟨_, rfl⟩
  rw [eN] at hn ⊢
  have EN := Lib.hid eN
  clear eN
  go_enter Tryz.func37, Tryz.ntmps37
  go_wp2_with fail
  go_loopw [9] (fun i wr => ∃ k : Nat, i = .int .i64 k ∧ k ≤ N ∧ Hid (Below w.heap.size w wr) ∧ Hid (validAll ls = validAll (ls.drop k))) (fun i _ => N - (intOf i).toNat)
  case atStart => exact ⟨0, rfl, Nat.zero_le _, Lib.hid (Below.refl _ _), Lib.hid rfl⟩
  case round =>
    obtain ⟨k, rfl, hk, HB, HK⟩ := hrel
    by_cases hlt : k < N
    · have hk1 : k < vs.length := by rw [EN.out]; exact hlt
      have hk2 : k < ls.length := by rw [← HL.out]; exact hk1
      have V1 := VL.out k hk1 hk2
      have c0 : wr.cell? ⟨g, k, none⟩ = some vs[k] := by
        have := HC.out k hk1
        rw [HB.out.cell (p := ⟨g, k, none⟩) (World.block_lt_of_cell? _ _ this)]
        exact this
      have HK2 : Hid (validAll ls = firstN (validF ls[k]).2 (validAll (ls.drop (k + 1)))) := Lib.hid (by rw [HK.out, List.drop_eq_getElem_cons hk2]; rfl)
      obtain ⟨v, hv⟩ : ∃ v, vs[k] = v := ⟨_, rfl⟩
      obtain ⟨y, hy⟩ : ∃ y, validF ls[k] = y := ⟨_, rfl⟩
      obtain ⟨y1, n⟩ := y
      rw [hv] at c0 V1
      rw [hy] at V1 HK2
      have VL := Lib.hid V1
      clear V1 hv hy hk1 hk2 HK HC
      by_cases n0 : n = 0
      · have q9 : (n != 0) = false := by rw [n0]; rfl
        have HN : Hid (validAll ls = validAll (ls.drop (k + 1))) := Lib.hid (by rw [HK2.out, n0]; rfl)
        clear n0 HK2
        go_wp2_with (go_at_call 59; (with_reducible refine (VL.out _ HB.out).mono ?_); rintro e w3 ⟨rfl, hb3⟩; have HB3 := Lib.hid (HB.out.trans (hb3.mono HB.out.size)); clear hb3)
        go_roundw
        case rel => exact ⟨k + 1, by go_num, hlt, HB3, HN⟩
        case measure => simp [intOf]; omega
      · have q9 : (n != 0) = true := by rw [bne, kne n0]; rfl
        have HE : Hid (validAll ls = n) := Lib.hid (by rw [HK2.out]; unfold firstN; rw [if_pos n0])
        clear n0 HK2
        go_wp2_with (go_at_call 59; (with_reducible refine (VL.out _ HB.out).mono ?_); rintro e w3 ⟨rfl, hb3⟩; have HB3 := Lib.hid (HB.out.trans (hb3.mono HB.out.size)); clear hb3)
        go_ret
        exact ⟨ret_i64 HE.out.symm, HB3.out⟩
    · obtain rfl : k = N := by omega
      have HE : Hid (validAll ls = 0) := Lib.hid (by rw [HK.out, List.drop_of_length_le (by rw [← HL.out, EN.out]; exact Nat.le_refl _)]; rfl)
      clear HK VL HC
      go_wp2_with fail
      go_ret
      exact ⟨ret_i64 HE.out.symm, HB.out⟩
end Go.Proofs.YthipcepgbegaiaaGreatDoor

/-
  patch.Check, patch.Diff: contracts. By an AI agent.
-/
namespace Go.Proofs.YthipcepgbegaiaaGreatDoor
open Go.RowKit
set_option maxRecDepth 100000

/-- what union, minus and meet do -/
structure SetOK : Prop where
  union : ∀ (a b : List QuadL) (v0 v1 : Value) (w : World), QView w v0 a → QView w v1 b → a.length ≤ 2097152 → b.length ≤ 2097152 →
    Calls Tryz.prog 46 #[v0, v1] w fun e w' => ∃ v, e = .returned v ∧ QOwn w.heap.size v (unionS a b) w' ∧ Below w.heap.size w w'
  minus : ∀ (a b : List QuadL) (v0 v1 : Value) (w : World), QView w v0 a → QView w v1 b → a.length ≤ 2097152 → b.length ≤ 2097152 →
    Calls Tryz.prog 38 #[v0, v1] w fun e w' => ∃ v, e = .returned v ∧ QOwn w.heap.size v (minusS a b) w' ∧ Below w.heap.size w w'
  meet : ∀ (a b : List QuadL) (v0 v1 : Value) (w : World), QView w v0 a → QView w v1 b → a.length ≤ 2097152 → b.length ≤ 2097152 →
    Calls Tryz.prog 44 #[v0, v1] w fun e w' => e = .returned (.bool (decide (0 < (meetS a b).length))) ∧ Below w.heap.size w w'
theorem patchValid1_l (l : List QuadL) (v : Value) (g : Nat) (w : World) (hT : TabAt w) (hM : MaxAt w) (c0 : w.cell? ⟨g, 0, none⟩ = some v) (hV : QView w v l) (hN : Neat l) :
    Calls Tryz.prog 37 #[.slice (some ⟨g, 0, none⟩) 1 1] w fun e w' => e = .returned (.int .i64 (validF l).2) ∧ Below w.heap.size w w' := by
  have h := patchValid_l [l] [v] g w hT hM rfl (fun i h => by obtain rfl : i = 0 := by simpa using h
                                                              exact c0) (fun i h => by obtain rfl : i = 0 := by simpa using h
                                                                                       exact hV) (fun x hx => by obtain rfl : x = l := by simpa using hx
                                                                                                                 exact hN) (by simp)
  rw [validAll_1] at h
  exact h
theorem patchValid2_l (l m : List QuadL) (v u : Value) (g : Nat) (w : World) (hT : TabAt w) (hM : MaxAt w) (c0 : w.cell? ⟨g, 0, none⟩ = some v) (c1 : w.cell? ⟨g, 1, none⟩ = some u) (hV : QView w v l) (hU : QView w u m) (hN : Neat l) (hO : Neat m) :
    Calls Tryz.prog 37 #[.slice (some ⟨g, 0, none⟩) 2 2] w fun e w' => e = .returned (.int .i64 (firstN (validF l).2 (validF m).2)) ∧ Below w.heap.size w w' := by
  have h := patchValid_l [l, m] [v, u] g w hT hM rfl (fun i h => match i, h with | 0, _ => c0 | 1, _ => c1) (fun i h => match i, h with | 0, _ => hV | 1, _ => hU)
    (fun x hx => by
      rcases List.mem_cons.1 hx with rfl | hx
      · exact hN
      · obtain rfl : x = m := by simpa using hx
        exact hO) (by simp)
  rw [validAll_2] at h
  exact h
theorem box2_new {w w3 : World} {x y : Value} {T : TypeId} {o : Obj} (hb : Below ((w.alloc (.cells #[x, y] T)).alloc o).heap.size ((w.alloc (.cells #[x, y] T)).alloc o) w3) : Box2 w w.heap.size x y w3 ∧ Below w.heap.size w w3 := by
  have h1 : Below (w.alloc (.cells #[x, y] T)).heap.size (w.alloc (.cells #[x, y] T)) w3 := ((Below.refl _ _).alloc (Nat.le_refl _) _).trans (hb.mono (by simp))
  exact ⟨Box2.mk0.later h1, ((Below.refl _ _).alloc (Nat.le_refl _) _).trans (h1.mono (by simp))⟩
theorem QView.form {w : World} {v : Value} {l : List QuadL} (h : QView w v l) : ∃ a cap, v = .slice a l.length cap := by
  obtain ⟨a, cap, rfl, _⟩ := h
  exact ⟨a, cap, rfl⟩
/-- a patch's two lists -/
def PView (w : World) (mv pv : Value) (p : PatchL) : Prop := QView w mv p.minus ∧ QView w pv p.plus
theorem PView.below {w w' : World} {mv pv : Value} {p : PatchL} (h : PView w mv pv p) (hb : Below w.heap.size w w') : PView w' mv pv p := ⟨h.1.below hb, h.2.below hb⟩
/-- .. in memory of the call's own -/
def PFresh (base : Nat) (mv pv : Value) (p : PatchL) (w : World) : Prop := QOwn base mv p.minus w ∧ QOwn base pv p.plus w ∧ Apart mv pv
theorem PFresh.view {base : Nat} {mv pv : Value} {p : PatchL} {w : World} (h : PFresh base mv pv p w) : PView w mv pv p := ⟨h.1.view, h.2.1.view⟩
theorem PFresh.nil (base : Nat) (w : World) : PFresh base (.slice none 0 0) (.slice none 0 0) noPatch w := ⟨QOwn.nil _ _, QOwn.nil _ _, Apart.nil_left _⟩
theorem PFresh.below {base : Nat} {mv pv : Value} {p : PatchL} {w w' : World} (h : PFresh base mv pv p w) (hb : Below w.heap.size w w') : PFresh base mv pv p w' := ⟨h.1.below hb, h.2.1.below hb, h.2.2⟩
def NeatP (p : PatchL) : Prop := Neat p.minus ∧ Neat p.plus

set_option maxHeartbeats 1000000 in
theorem patchCheck_l (O : SetOK) (p : PatchL) (mv pv : Value) (w : World) (hT : TabAt w) (hM : MaxAt w) (h : PView w mv pv p) (hN : NeatP p) :
    Calls Tryz.prog 16 #[.agg #[mv, pv]] w fun e w' => e = .returned (.int .i64 (checkN p)) ∧ Below w.heap.size w w' := by
  have V2 := Lib.hid (fun (g : Nat) (u : World) (hb : Below w.heap.size w u) (c0 : u.cell? ⟨g, 0, none⟩ = some mv) (c1 : u.cell? ⟨g, 1, none⟩ = some pv) => patchValid2_l p.minus p.plus mv pv g u (hT.below hb) (hM.below hb) c0 c1 (h.1.below hb) (h.2.below hb) hN.1 hN.2)
  have ME := Lib.hid (fun (u : World) (hb : Below w.heap.size w u) => O.meet p.minus p.plus mv pv u (h.1.below hb) (h.2.below hb) (by have := hN.1.1; omega) (by have := hN.2.1; omega))
  have HC : Hid (checkN p = firstN (firstN (validF p.minus).2 (validF p.plus).2) (if meetS p.minus p.plus = [] then 0 else 230)) := Lib.hid rfl
  have HB0 : Hid (∀ o1 o2, Below w.heap.size w ((w.alloc o1).alloc o2)) := Lib.hid (fun o1 o2 => ((Below.refl _ _).alloc (Nat.le_refl _) _).alloc (by simp) _)
  obtain ⟨pm, cm, rfl⟩ := h.1.form
  obtain ⟨pp, cp, rfl⟩ := h.2.form
  clear hT hM h hN O
  obtain ⟨n, hn⟩ : ∃ n, firstN (validF p.minus).2 (validF p.plus).2 = n := ⟨_, rfl⟩
  rw [hn] at V2 HC
  clear hn
  by_cases n0 : n = 0
  · have q9 : (n != 0) = false := by rw [n0]; rfl
    by_cases hm : 0 < (meetS p.minus p.plus).length
    · rw [decide_eq_true hm] at ME
      have HE : Hid (checkN p = 230) := Lib.hid (by rw [HC.out, n0, if_neg (fun e => by rw [e] at hm; simp at hm)]; rfl)
      clear hm n0 HC
      go_enter Tryz.func16, Tryz.ntmps16
      go_wp2_with (first | (go_at_call 37; (with_reducible refine (V2.out _ _ (HB0.out _ _) ?c0 ?c1).mono ?_); (case c0 => go_simp); (case c1 => go_simp); rintro e w3 ⟨rfl, hb3⟩; obtain ⟨⟨c0, c1, f0, f1, hlt⟩, hbw⟩ := box2_new hb3; have HB := Lib.hid hbw; clear hb3 hbw hlt) | (go_at_call 44; (with_reducible refine (ME.out _ HB.out).mono ?_); rintro e w4 ⟨rfl, hb4⟩; have HB4 := Lib.hid (HB.out.trans (hb4.mono HB.out.size)); clear hb4))
      go_ret
      exact ⟨ret_i64 HE.out.symm, HB4.out⟩
    · rw [decide_eq_false hm] at ME
      have HE : Hid (checkN p = 0) := Lib.hid (by rw [HC.out, n0, if_pos (List.eq_nil_of_length_eq_zero (by omega))]; rfl)
      clear hm n0 HC
      go_enter Tryz.func16, Tryz.ntmps16
      go_wp2_with (first | (go_at_call 37; (with_reducible refine (V2.out _ _ (HB0.out _ _) ?c0 ?c1).mono ?_); (case c0 => go_simp); (case c1 => go_simp); rintro e w3 ⟨rfl, hb3⟩; obtain ⟨⟨c0, c1, f0, f1, hlt⟩, hbw⟩ := box2_new hb3; have HB := Lib.hid hbw; clear hb3 hbw hlt) | (go_at_call 44; (with_reducible refine (ME.out _ HB.out).mono ?_); rintro e w4 ⟨rfl, hb4⟩; have HB4 := Lib.hid (HB.out.trans (hb4.mono HB.out.size)); clear hb4))
      go_ret
      exact ⟨ret_i64 HE.out.symm, HB4.out⟩
  · have q9 : (n != 0) = true := by rw [bne, kne n0]; rfl
    have HE : Hid (checkN p = n) := Lib.hid (by rw [HC.out]; unfold firstN; rw [if_pos n0])
    clear n0 HC
    go_enter Tryz.func16, Tryz.ntmps16
    go_wp2_with (go_at_call 37; (with_reducible refine (V2.out _ _ (HB0.out _ _) ?c0 ?c1).mono ?_); (case c0 => go_simp); (case c1 => go_simp); rintro e w3 ⟨rfl, hb3⟩; obtain ⟨⟨c0, c1, f0, f1, hlt⟩, hbw⟩ := box2_new hb3; have HB := Lib.hid hbw; clear hb3 hbw hlt)
    go_ret
    exact ⟨ret_i64 HE.out.symm, HB.out⟩

theorem Box2.stored {w w1 : World} {g : Nat} {x y u v : Value} (h : Box2 w g x y w1) : Box2 w g u v ((w1.setCell ⟨g, 0, none⟩ u).setCell ⟨g, 1, none⟩ v) := by
  refine ⟨?_, ?_, ?_, ?_, ?_⟩
  · rw [World.cell?_setCell_other _ _ _ _ (by simp), World.cell?_setCell_same _ _ _ h.c0]
  · rw [World.cell?_setCell_same _ _ _ (by rw [World.cell?_setCell_other _ _ _ _ (by simp)]; exact h.c1)]
  · rw [World.frozen?_setCell, World.frozen?_setCell]; exact h.f0
  · rw [World.frozen?_setCell, World.frozen?_setCell]; exact h.f1
  · simp; exact h.lt
/-- what a call that has stored two lists of its own in its result's cells leaves -/
theorem patch_fin {w w3 w4 w5 : World} {a b : List QuadL} {mv pv : Value} (hN : w.heap.size < w3.heap.size) (b3 : Below w.heap.size w w3) (hm : QOwn w3.heap.size mv a w4) (b4 : Below w3.heap.size w3 w4) (hp : QOwn w4.heap.size pv b w5) (b5 : Below w4.heap.size w4 w5) :
    PFresh w.heap.size mv pv ⟨a, b⟩ ((w5.setCell ⟨w.heap.size, 0, none⟩ mv).setCell ⟨w.heap.size, 1, none⟩ pv) ∧ Below w.heap.size w ((w5.setCell ⟨w.heap.size, 0, none⟩ mv).setCell ⟨w.heap.size, 1, none⟩ pv) := by
  have h4 := b4.size
  refine ⟨⟨(((hm.below b5).set ⟨w.heap.size, 0, none⟩ mv hN).set ⟨w.heap.size, 1, none⟩ pv hN).less (Nat.le_of_lt hN), (((hp.set ⟨w.heap.size, 0, none⟩ mv (by simp only; omega)).set ⟨w.heap.size, 1, none⟩ pv (by simp only; omega)).less (by omega)), hm.apart hp (Nat.le_refl _)⟩, ?_⟩
  exact (((b3.trans (b4.mono b3.size)).trans (b5.mono (by omega))).setCell (p := ⟨w.heap.size, 0, none⟩) (Nat.le_refl _) _).setCell (p := ⟨w.heap.size, 1, none⟩) (Nat.le_refl _) _

set_option maxHeartbeats 1000000 in
theorem patchDiff_l (O : SetOK) (a b : List QuadL) (v0 v1 : Value) (w : World) (hT : TabAt w) (hM : MaxAt w) (h0 : QView w v0 a) (h1 : QView w v1 b) (n0 : Neat a) (n1 : Neat b) :
    Calls Tryz.prog 9 #[v0, v1] w fun e w' => ∃ mv pv, e = .returned (.tuple #[.agg #[mv, pv], .int .i64 (diffN a b).2]) ∧ PFresh w.heap.size mv pv (diffN a b).1 w' ∧ Below w.heap.size w w' := by
  have V2 := Lib.hid (fun (g : Nat) (u : World) (hb : Below w.heap.size w u) (c0 : u.cell? ⟨g, 0, none⟩ = some v0) (c1 : u.cell? ⟨g, 1, none⟩ = some v1) => patchValid2_l a b v0 v1 g u (hT.below hb) (hM.below hb) c0 c1 (h0.below hb) (h1.below hb) n0 n1)
  have M1 := Lib.hid (fun (u : World) (hb : Below w.heap.size w u) => O.minus a b v0 v1 u (h0.below hb) (h1.below hb) (by have := n0.1; omega) (by have := n1.1; omega))
  have M2 := Lib.hid (fun (u : World) (hb : Below w.heap.size w u) => O.minus b a v1 v0 u (h1.below hb) (h0.below hb) (by have := n1.1; omega) (by have := n0.1; omega))
  have HB0 : Hid (∀ o1 o2, Below w.heap.size w ((w.alloc o1).alloc o2)) := Lib.hid (fun o1 o2 => ((Below.refl _ _).alloc (Nat.le_refl _) _).alloc (by simp) _)
  have HD : Hid (diffN a b = if firstN (validF a).2 (validF b).2 ≠ 0 then (noPatch, firstN (validF a).2 (validF b).2) else (⟨minusS a b, minusS b a⟩, 0)) := Lib.hid rfl
  obtain ⟨pm, cm, rfl⟩ := h0.form
  obtain ⟨pp, cp, rfl⟩ := h1.form
  clear hT hM h0 h1 n0 n1 O
  obtain ⟨n, hn⟩ : ∃ n, firstN (validF a).2 (validF b).2 = n := ⟨_, rfl⟩
  rw [hn] at V2 HD
  clear hn
  by_cases n0 : n = 0
  · have q9 : (n != 0) = false := by rw [n0]; rfl
    have HE : Hid (diffN a b = (⟨minusS a b, minusS b a⟩, 0)) := Lib.hid (by rw [HD.out, if_neg (fun h => h n0)])
    clear n0 HD
    go_enter Tryz.func9, Tryz.ntmps9
    go_wp2_with (first | (go_at_call 37; (with_reducible refine (V2.out _ _ (HB0.out _ _) ?c0 ?c1).mono ?_); (case c0 => go_simp); (case c1 => go_simp); rintro e w3 ⟨rfl, hb3⟩; have BX := Lib.hid (box2_new hb3); clear hb3) | (go_at_call 38; (with_reducible refine (M1.out _ BX.out.2).mono ?_); rintro e w4 ⟨mv, rfl, ho4, hb4⟩; obtain ⟨pa1, ca1, rfl⟩ := ho4.view.form; have HO4 := Lib.hid ho4; have HB4 := Lib.hid hb4; clear ho4 hb4 M1) | (go_at_call 38; (with_reducible refine (M2.out _ (BX.out.2.trans (HB4.out.mono BX.out.2.size))).mono ?_); rintro e w5 ⟨pv, rfl, ho5, hb5⟩; obtain ⟨pa2, ca2, rfl⟩ := ho5.view.form; have HO5 := Lib.hid ho5; have HB5 := Lib.hid hb5; clear ho5 hb5 M2; obtain ⟨c0, c1, f0, f1, hlt⟩ := (BX.out.1.later HB4.out).later HB5.out; clear hlt))
    refine bodyPost_ret (v := .tuple #[.agg #[.slice pa1 (minusS a b).length ca1, .slice pa2 (minusS b a).length ca2], .int .i64 0]) (by simp [results, Tryz.results9, go_sem, c0, c1]) rfl ?_
    obtain ⟨f1, f2⟩ := patch_fin BX.out.1.lt BX.out.2 HO4.out HB4.out HO5.out HB5.out
    exact ⟨_, _, by rw [HE.out], by rw [HE.out]; exact f1, f2⟩
  · have q9 : (n != 0) = true := by rw [bne, kne n0]; rfl
    have HE : Hid (diffN a b = (noPatch, n)) := Lib.hid (by rw [HD.out, if_pos n0])
    clear n0 HD
    go_enter Tryz.func9, Tryz.ntmps9
    go_wp2_with (go_at_call 37; (with_reducible refine (V2.out _ _ (HB0.out _ _) ?c0 ?c1).mono ?_); (case c0 => go_simp); (case c1 => go_simp); rintro e w3 ⟨rfl, hb3⟩; obtain ⟨⟨c0, c1, f0, f1, hlt⟩, hbw⟩ := box2_new hb3; have HB := Lib.hid hbw; clear hb3 hbw hlt)
    refine bodyPost_ret (v := .tuple #[.agg #[.slice none 0 0, .slice none 0 0], .int .i64 n]) (by simp [results, Tryz.results9, go_sem, c0, c1]) rfl ?_
    exact ⟨_, _, by rw [HE.out], by rw [HE.out]; exact PFresh.nil _ _, (HB.out.setCell (p := ⟨w.heap.size, 0, none⟩) (Nat.le_refl _) _).setCell (p := ⟨w.heap.size, 1, none⟩) (Nat.le_refl _) _⟩
end Go.Proofs.YthipcepgbegaiaaGreatDoor
