/-
  term.Rises, term.two, term.Union, term.Meet, term.Minus: contracts. By an AI agent.
-/
import Derived.Test.YtmnigckpejcaeaaGreatDoorZApp
import Derived.Test.YtmnigckpejcaeaaGreatDoorZCmp
import Derived.IntWalk
import Derived.Test.YtmnigckpejcaeaaGreatDoorZPatch0
import Derived.Test.YtmnigckpejcaeaaGreatDoorZStill
import Derived.Test.YtmnigckpejcaeaaGreatDoorZValid
import Derived.Test.YtmnigckpejcaeaaGreatDoorZKeep
import Derived.Deep.RegionHeld3
import Derived.Test.YtmnigckpejcaeaaGreatDoorZLoadQ
import Derived.Test.YtmnigckpejcaeaaGreatDoorZMergedM
namespace Go.Proofs.YtmnigckpejcaeaaGreatDoor
open Go.RowKit
set_option maxRecDepth 100000
theorem QOwn.less {b1 b2 : Nat} {v : Value} {l : List QuadL} {w : World} (h : QOwn b2 v l w) (hb : b1 <= b2) : QOwn b1 v l w := by
 refine ⟨h.1, ?_⟩
 rcases h.2 with hn | ⟨g, cap, cur, rfl, h1, rest⟩
 · exact .inl hn
 · exact .inr ⟨g, cap, cur, rfl, by omega, rest⟩
theorem compareQuads_s (a b : QuadL) (w : World) : Calls Tryz.prog 61 #[.agg #[.int .i64 a.s.kind, .string (B a.s.text), .string (B a.s.type), .string (B a.s.lang), .int .i64 a.p.kind, .string (B a.p.text), .string (B a.p.type), .string (B a.p.lang), .int .i64 a.o.kind, .string (B a.o.text), .string (B a.o.type), .string (B a.o.lang), .int .i64 a.g.kind, .string (B a.g.text), .string (B a.g.type), .string (B a.g.lang)], .agg #[.int .i64 b.s.kind, .string (B b.s.text), .string (B b.s.type), .string (B b.s.lang), .int .i64 b.p.kind, .string (B b.p.text), .string (B b.p.type), .string (B b.p.lang), .int .i64 b.o.kind, .string (B b.o.text), .string (B b.o.type), .string (B b.o.lang), .int .i64 b.g.kind, .string (B b.g.text), .string (B b.g.type), .string (B b.g.lang)]] w fun e w' => e = .returned (.int .i64 (cmpQ a b)) /\ Below w.heap.size w w' := compareQuads_l a b w
theorem riseB_step {l : List QuadL} {m : Nat} (h : m + 1 < l.length) : riseB (l.drop m) = (decide (cmpQ (l[m]'(by omega)) l[m + 1] < 0) && riseB (l.drop (m + 1))) := by
 have e : l.drop m = l[m]'(by omega) :: l[m + 1] :: l.drop (m + 2) := by
   rw [List.drop_eq_getElem_cons (by omega), List.drop_eq_getElem_cons h]
 rw [e, riseB, List.drop_eq_getElem_cons h]
theorem riseB_end {l : List QuadL} {m : Nat} (h : l.length <= m + 1) : riseB (l.drop m) = true := by
 have : (l.drop m).length <= 1 := by simp; omega
 match hd : l.drop m, this with
 | [], _ => rfl
 | [_], _ => rfl
 | _ :: _ :: _, h => simp at h
set_option maxHeartbeats 2000000 in
theorem rises_l (l : List QuadL) (v : Value) (w : World) (hV : QView w v l) (hl : l.length <= 4194304) :
   Calls Tryz.prog 170 #[v, .func (.func 61) #[] #[]] w fun e w' => e = .returned (.bool (riseB l)) /\ Below w.heap.size w w' := by
 obtain ⟨a, c, rfl, _, hQ⟩ := hV
 have HQ := Lib.hid hQ
 have CM0 := Lib.hid (fun (x y : QuadL) (u : World) => compareQuads_s x y u)
 clear hQ
 go_enter Tryz.func170, Tryz.ntmps170
 go_wp2_with fail
 go_loopw [5] (fun i wr => ∃ m : Nat, i = .int .i64 (m + 1) /\ m <= l.length /\ Below w.heap.size w wr /\ Hid (riseB l = riseB (l.drop m))) (fun i _ => l.length + 1 - (intOf i).toNat)
 case atStart => exact ⟨0, rfl, Nat.zero_le _, Below.refl _ _, Lib.hid rfl⟩
 case round =>
   obtain ⟨m, rfl, hm, hb, HK⟩ := hrel
   by_cases hlt2 : m + 1 < l.length
   · obtain ⟨b, o, rfl⟩ := HQ.out.place (by omega)
     have hQ2 := HQ.out.below hb
     have r1 := hQ2.get (k := m) (by omega)
     have r2 := hQ2.get (k := m + 1) hlt2
     obtain ⟨x, hx⟩ : ∃ x, l[m] = x := ⟨_, rfl⟩
     obtain ⟨y, hy⟩ : ∃ y, l[m + 1] = y := ⟨_, rfl⟩
     have HS2 := riseB_step hlt2
     rw [hx, hy] at HS2
     have HK2 := Lib.hid (HK.out.trans HS2)
     rw [hx] at r1
     rw [hy] at r2
     obtain ⟨c0, c1, c2, c3, c4, c5, c6, c7, c8, c9, c10, c11, c12, c13, c14, c15⟩ := cells16 r1
     obtain ⟨d0, d1, d2, d3, d4, d5, d6, d7, d8, d9, d10, d11, d12, d13, d14, d15⟩ := cells16 r2
     have BB := Lib.hid hb
     clear hb hQ2 r1 r2 hx hy HS2 HK
     obtain ⟨n, hn⟩ : ∃ n, cmpQ x y = n := ⟨_, rfl⟩
     have CX := CM0.out x y
     rw [hn] at CX HK2
     have CM := Lib.hid CX
     clear CX hn
     by_cases n0 : 0 <= n
     · as_aux_lemma =>
       have q9 : decide (0 <= n) = true := decide_eq_true n0
       have HE : Hid (riseB l = false) := Lib.hid (by rw [HK2.out, decide_eq_false (by omega)]; rfl)
       clear n0 HK2
       go_wp2_with fail
       have hm2 : m < l.length := by omega
       have hm3 : (0 : Int) <= (m : Int) + 1 := by omega
       have W1 : IntKind.i64.wrap (m : Int) = (m : Int) := IntWalk.i64_in _ (by omega)
       refine region_still 10 (by kernel_rfl) (by kernel_rfl) ?_
       simp only [List.take_succ_cons, List.take_zero, List.drop_succ_cons, List.drop_zero]
       repeat still_step
       refine wpStill_nil ?_
       clear W1
       go_wp2_with (go_at_call 61; (with_reducible refine (CM.out _).mono ?_); rintro e w3 ⟨rfl, hb3⟩; have HB3 := Lib.hid (BB.out.trans (((below_drewN _ 1).trans hb3).mono BB.out.size)); clear hb3)
       go_ret
       exact ⟨ret_bool HE.out.symm, HB3.out⟩
     · as_aux_lemma =>
       have q9 : decide (0 <= n) = false := decide_eq_false n0
       have HN : Hid (riseB l = riseB (l.drop (m + 1))) := Lib.hid (by rw [HK2.out, decide_eq_true (by omega)]; rfl)
       clear n0 HK2
       go_wp2_with fail
       have hm2 : m < l.length := by omega
       have hm3 : (0 : Int) <= (m : Int) + 1 := by omega
       have W1 : IntKind.i64.wrap (m : Int) = (m : Int) := IntWalk.i64_in _ (by omega)
       refine region_still 10 (by kernel_rfl) (by kernel_rfl) ?_
       simp only [List.take_succ_cons, List.take_zero, List.drop_succ_cons, List.drop_zero]
       repeat still_step
       refine wpStill_nil ?_
       clear W1
       go_wp2_with (go_at_call 61; (with_reducible refine (CM.out _).mono ?_); rintro e w3 ⟨rfl, hb3⟩; have HB3 := Lib.hid (BB.out.trans (((below_drewN _ 1).trans hb3).mono BB.out.size)); clear hb3)
       go_roundw
       case rel => exact ⟨m + 1, by go_num, by omega, HB3.out, HN⟩
       case measure => simp [intOf]; omega
   · as_aux_lemma =>
     have HE : Hid (riseB l = true) := Lib.hid (by rw [HK.out, riseB_end (by omega)])
     have q8 : decide ((m : Int) + 1 < (l.length : Int)) = false := decide_eq_false (by omega)
     have BB := Lib.hid hb
     clear hb HK CM0
     go_wp2_with fail
     go_ret
     exact ⟨ret_bool HE.out.symm, BB.out⟩
theorem risesQ_l (l : List QuadL) (v : Value) (w : World) (hV : QView w v l) (hl : l.length <= 4194304) :
   Calls Tryz.prog 131 #[v] w fun e w' => e = .returned (.bool (riseB l)) /\ Below w.heap.size w w' := by
 have R := Lib.hid (rises_l l v w hV hl)
 clear hV
 go_enter Tryz.func131, Tryz.ntmps131
 go_wp2_with (go_at_call 170; (with_reducible refine R.out.mono ?_); rintro e w3 ⟨rfl, hb3⟩)
 go_ret
 exact ⟨rfl, hb3⟩
def MergeOK (f m s : Bool) : Prop := ∀ (a b : List QuadL) (v0 v1 : Value) (w : World), QView w v0 a -> QView w v1 b -> a.length <= 2097152 -> b.length <= 2097152 ->
   Calls Tryz.prog 132 #[v0, v1, .func (.func 61) #[] #[], .bool f, .bool m, .bool s] w fun e w' => ∃ v, e = .returned v /\ QOwn w.heap.size v (mergeF f m s a b) w' /\ Below w.heap.size w w'
def twoS (f m s : Bool) (a b : List QuadL) : List QuadL := if riseB a && riseB b then mergeF f m s a b else []
def twoE (a b : List QuadL) : Int := if riseB a && riseB b then 0 else 6
set_option maxHeartbeats 1000000 in
theorem two_l (f m s : Bool) (hm : MergeOK f m s) (a b : List QuadL) (v0 v1 : Value) (w : World) (h0 : QView w v0 a) (h1 : QView w v1 b) (n0 : a.length <= 2097152) (n1 : b.length <= 2097152) :
   Calls Tryz.prog 101 #[v0, v1, .bool f, .bool m, .bool s] w fun e w' => ∃ v, e = .returned (.tuple #[v, .int .i64 (twoE a b)]) /\ QOwn w.heap.size v (twoS f m s a b) w' /\ Below w.heap.size w w' := by
 have R0 := Lib.hid (risesQ_l a v0 w h0 (by omega))
 have R1 := Lib.hid (fun (u : World) (hb : Below w.heap.size w u) => risesQ_l b v1 u (h1.below hb) (by omega))
 have MG := Lib.hid (fun (u : World) (hb : Below w.heap.size w u) => hm a b v0 v1 u (h0.below hb) (h1.below hb) n0 n1)
 clear h0 h1 hm
 cases ha : riseB a with
 | false =>
   rw [ha] at R0
   have HE : Hid (twoE a b = 6 /\ twoS f m s a b = []) := Lib.hid (by unfold twoE twoS; rw [ha]; exact ⟨rfl, rfl⟩)
   clear ha
   go_enter Tryz.func101, Tryz.ntmps101
   go_wp2_with (go_at_call 131; (with_reducible refine R0.out.mono ?_); rintro e w3 ⟨rfl, hb3⟩)
   go_ret2
   exact ⟨.slice none 0 0, by rw [HE.out.1]; rfl, by rw [HE.out.2]; exact QOwn.nil _ _, hb3⟩
 | true =>
   rw [ha] at R0
   cases hb : riseB b with
   | false =>
     rw [hb] at R1
     have HE : Hid (twoE a b = 6 /\ twoS f m s a b = []) := Lib.hid (by unfold twoE twoS; rw [ha, hb]; exact ⟨rfl, rfl⟩)
     clear ha hb
     go_enter Tryz.func101, Tryz.ntmps101
     go_wp2_with (first | (go_at_call 131; (with_reducible refine R0.out.mono ?_); rintro e w3 ⟨rfl, hb3⟩; clear R0) | (go_at_call 131; (with_reducible refine (R1.out _ hb3).mono ?_); rintro e w4 ⟨rfl, hb4⟩; clear R1))
     go_ret2
     exact ⟨.slice none 0 0, by rw [HE.out.1]; rfl, by rw [HE.out.2]; exact QOwn.nil _ _, hb3.trans (hb4.mono hb3.size)⟩
   | true =>
     rw [hb] at R1
     have HE : Hid (twoE a b = 0 /\ twoS f m s a b = mergeF f m s a b) := Lib.hid (by unfold twoE twoS; rw [ha, hb]; exact ⟨rfl, rfl⟩)
     clear ha hb
     go_enter Tryz.func101, Tryz.ntmps101
     go_wp2_with (first | (go_at_call 131; (with_reducible refine R0.out.mono ?_); rintro e w3 ⟨rfl, hb3⟩; clear R0) | (go_at_call 131; (with_reducible refine (R1.out _ hb3).mono ?_); rintro e w4 ⟨rfl, hb4⟩; clear R1) | (go_at_call 132; (with_reducible refine (MG.out _ (hb3.trans (hb4.mono hb3.size))).mono ?_); rintro e w5 ⟨v, rfl, ho5, hb5⟩; have HX := Lib.hid (And.intro ho5 hb5); clear ho5 hb5))
     go_ret2
     exact ⟨v, by rw [HE.out.1]; rfl, by rw [HE.out.2]; exact QOwn.less HX.out.1 (Nat.le_trans hb3.size hb4.size), (hb3.trans (hb4.mono hb3.size)).trans (HX.out.2.mono (Nat.le_trans hb3.size hb4.size))⟩
end Go.Proofs.YtmnigckpejcaeaaGreatDoor
namespace Go.Proofs.YtmnigckpejcaeaaGreatDoor
open Go.RowKit
set_option maxRecDepth 100000
def Neat (l : List QuadL) : Prop := l.length <= 524288 /\ ∀ q ∈ l, Short q
theorem Neat.nil : Neat [] := ⟨by simp, by simp⟩
theorem own_lt {w : World} {base : Nat} {e : TypeId} {s : Nat} {v : Value} {n : Nat} {xs : List Value} (h : w.ownsRow base e s v n xs) : ∀ k, v.ownBlock = some k -> k < w.heap.size := by
 intro k hk
 rcases h.2 with ⟨rfl, _⟩ | ⟨g, cap, cur, rfl, h1, h2, _⟩
 · simp [Value.ownBlock] at hk
 · simp [Value.ownBlock] at hk
   subst hk
   exact (Array.getElem?_eq_some_iff.1 h2).1
theorem QOwn.apart {w w' : World} {b1 b2 : Nat} {u v : Value} {l m : List QuadL} (h : QOwn b1 u l w) (h' : QOwn b2 v m w') (hb : w.heap.size <= b2) : Apart u v := fun g h1 h2 => by
 have := own_lt h g h1
 have := own_base h' g h2
 omega
theorem ownsRow_setQ {w : World} {base : Nat} {e : TypeId} {s : Nat} {v : Value} {n : Nat} {xs : List Value} (h : w.ownsRow base e s v n xs) (p : Addr) (x : Value) (hp : v.ownBlock ≠ some p.block) : (w.setCell p x).ownsRow base e s v n xs := by
 refine ⟨h.1, ?_⟩
 rcases h.2 with hn | ⟨g, cap, cur, rfl, h1, h2, rest⟩
 · exact .inl hn
 · refine .inr ⟨g, cap, cur, rfl, h1, ?_, rest⟩
   rw [heap_setCell_other w p g x (fun e => hp (by rw [<- e]; simp [Value.ownBlock]))]
   exact h2
theorem QOwn.set {w : World} {base : Nat} {v : Value} {l : List QuadL} (h : QOwn base v l w) (p : Addr) (x : Value) (hp : p.block < base) : QOwn base v l (w.setCell p x) :=
 ownsRow_setQ h p x (fun e => by have := own_base h _ e; omega)
structure Box2 (w : World) (g : Nat) (x y : Value) (w' : World) : Prop where
 c0 : w'.cell? ⟨g, 0, none⟩ = some x
 c1 : w'.cell? ⟨g, 1, none⟩ = some y
 f0 : w'.frozen? ⟨g, 0, none⟩ = false
 f1 : w'.frozen? ⟨g, 1, none⟩ = false
 lt : g < w'.heap.size
theorem Box2.mk0 {w : World} {x y : Value} {T : TypeId} : Box2 w w.heap.size x y (w.alloc (.cells #[x, y] T)) :=
 ⟨by rw [World.cell?_alloc_new]; rfl, by rw [World.cell?_alloc_new]; rfl, by rw [World.frozen?_alloc_new], by rw [World.frozen?_alloc_new], by simp⟩
theorem Box2.later {w w1 w2 : World} {g : Nat} {x y : Value} (h : Box2 w g x y w1) (hb : Below w1.heap.size w1 w2) : Box2 w g x y w2 :=
 ⟨(hb.cell (p := ⟨g, 0, none⟩) h.lt).trans h.c0, (hb.cell (p := ⟨g, 1, none⟩) h.lt).trans h.c1, (hb.frozen (p := ⟨g, 0, none⟩) h.lt).trans h.f0, (hb.frozen (p := ⟨g, 1, none⟩) h.lt).trans h.f1, Nat.lt_of_lt_of_le h.lt hb.size⟩
theorem firstN_last (x : Int) : firstN x 0 = x := by
 unfold firstN
 by_cases h : x = 0
 · simp [h]
 · simp [h]
theorem orI_firstN (x y : Int) : orI x y = firstN x y := by
 unfold orI firstN
 by_cases h : x = 0
 · simp [h]
 · simp [h]
def validAll : List (List QuadL) -> Int
 | [] => 0
 | l :: r => firstN (validF l).2 (validAll r)
theorem validAll_1 (a : List QuadL) : validAll [a] = (validF a).2 := firstN_last _
theorem validAll_2 (a b : List QuadL) : validAll [a, b] = firstN (validF a).2 (validF b).2 := by
 unfold validAll
 rw [validAll_1]
theorem validQ_l (l : List QuadL) (v : Value) (w : World) (hT : TabAt w) (hM : MaxAt w) (hV : QView w v l) (hn : Neat l) :
   Calls Tryz.prog 39 #[v] w fun e w' => e = .returned (.tuple #[.int .i64 (validF l).1, .int .i64 (validF l).2]) /\ Below w.heap.size w w' := by
 obtain ⟨a, c, rfl, _, hq⟩ := hV
 exact valid_l l a c w hT hM hn.2 (by have := hn.1; omega) hq
set_option maxHeartbeats 1000000 in
theorem patchValid_l (ls : List (List QuadL)) (vs : List Value) (g : Nat) (w : World) (hT : TabAt w) (hM : MaxAt w) (hl : vs.length = ls.length) (hc : ∀ i (h : i < vs.length), w.cell? ⟨g, i, none⟩ = some vs[i])
   (hV : ∀ i (h : i < vs.length), QView w vs[i] (ls[i]'(by omega))) (hN : ∀ l ∈ ls, Neat l) (h0 : ls.length <= 100) :
   Calls Tryz.prog 37 #[.slice (some ⟨g, 0, none⟩) vs.length vs.length] w fun e w' => e = .returned (.int .i64 (validAll ls)) /\ Below w.heap.size w w' := by
 have VL := Lib.hid (fun (i : Nat) (h : i < vs.length) (h2 : i < ls.length) (u : World) (hb : Below w.heap.size w u) => validQ_l (ls[i]'h2) vs[i] u (hT.below hb) (hM.below hb) ((hV i h).below hb) (hN _ (List.getElem_mem _)))
 have HC := Lib.hid hc
 have HL := Lib.hid hl
 have hn : vs.length <= 100 := by omega
 clear hc hV hN hT hM hl h0
 obtain ⟨N, eN⟩ : ∃ N, vs.length = N := ⟨_, rfl⟩
 rw [eN] at hn ⊢
 have EN := Lib.hid eN
 clear eN
 go_enter Tryz.func37, Tryz.ntmps37
 go_wp2_with fail
 go_loopw [9] (fun i wr => ∃ k : Nat, i = .int .i64 k /\ k <= N /\ Hid (Below w.heap.size w wr) /\ Hid (validAll ls = validAll (ls.drop k))) (fun i _ => N - (intOf i).toNat)
 case atStart => exact ⟨0, rfl, Nat.zero_le _, Lib.hid (Below.refl _ _), Lib.hid rfl⟩
 case round =>
   obtain ⟨k, rfl, hk, HB, HK⟩ := hrel
   by_cases hlt : k < N
   · have hk1 : k < vs.length := by rw [EN.out]; exact hlt
     have hk2 : k < ls.length := by rw [<- HL.out]; exact hk1
     have V1 := VL.out k hk1 hk2
     have c0 : wr.cell? ⟨g, k, none⟩ = some vs[k] := by
       have := HC.out k hk1
       rw [HB.out.cell (p := ⟨g, k, none⟩) (World.block_lt_of_cell? _ _ this)]
       exact this
     have HK2 : Hid (validAll ls = firstN (validF ls[k]).2 (validAll (ls.drop (k + 1)))) := Lib.hid (by rw [HK.out, List.drop_eq_getElem_cons hk2]; rfl)
     obtain ⟨v, hv⟩ : ∃ v, vs[k] = v := ⟨_, rfl⟩
     obtain ⟨y, hy⟩ : ∃ y, validF ls[k] = y := ⟨_, rfl⟩
     obtain ⟨y1, n⟩ := y
     rw [hv] at c0 V1
     rw [hy] at V1 HK2
     have VL := Lib.hid V1
     clear V1 hv hy hk1 hk2 HK HC
     by_cases n0 : n = 0
     · have q9 : (n != 0) = false := by rw [n0]; rfl
       have HN : Hid (validAll ls = validAll (ls.drop (k + 1))) := Lib.hid (by rw [HK2.out, n0]; rfl)
       clear n0 HK2
       go_wp2_with (go_at_call 39; (with_reducible refine (VL.out _ HB.out).mono ?_); rintro e w3 ⟨rfl, hb3⟩; have HB3 := Lib.hid (HB.out.trans (hb3.mono HB.out.size)); clear hb3)
       go_roundw
       case rel => exact ⟨k + 1, by go_num, hlt, HB3, HN⟩
       case measure => simp [intOf]; omega
     · have q9 : (n != 0) = true := by rw [bne, kne n0]; rfl
       have HE : Hid (validAll ls = n) := Lib.hid (by rw [HK2.out]; unfold firstN; rw [if_pos n0])
       clear n0 HK2
       go_wp2_with (go_at_call 39; (with_reducible refine (VL.out _ HB.out).mono ?_); rintro e w3 ⟨rfl, hb3⟩; have HB3 := Lib.hid (HB.out.trans (hb3.mono HB.out.size)); clear hb3)
       go_ret
       exact ⟨ret_i64 HE.out.symm, HB3.out⟩
   · obtain rfl : k = N := by omega
     have HE : Hid (validAll ls = 0) := Lib.hid (by rw [HK.out, List.drop_of_length_le (by rw [<- HL.out, EN.out]; exact Nat.le_refl _)]; rfl)
     clear HK VL HC
     go_wp2_with fail
     go_ret
     exact ⟨ret_i64 HE.out.symm, HB.out⟩
end Go.Proofs.YtmnigckpejcaeaaGreatDoor
namespace Go.Proofs.YtmnigckpejcaeaaGreatDoor
open Go.RowKit
set_option maxRecDepth 100000
structure SetOK : Prop where
 union : ∀ (a b : List QuadL) (v0 v1 : Value) (w : World), QView w v0 a -> QView w v1 b -> a.length <= 2097152 -> b.length <= 2097152 ->
   Calls Tryz.prog 66 #[v0, v1] w fun e w' => ∃ v, e = .returned v /\ QOwn w.heap.size v (unionS a b) w' /\ Below w.heap.size w w'
 minus : ∀ (a b : List QuadL) (v0 v1 : Value) (w : World), QView w v0 a -> QView w v1 b -> a.length <= 2097152 -> b.length <= 2097152 ->
   Calls Tryz.prog 38 #[v0, v1] w fun e w' => ∃ v, e = .returned v /\ QOwn w.heap.size v (minusS a b) w' /\ Below w.heap.size w w'
 meet : ∀ (a b : List QuadL) (v0 v1 : Value) (w : World), QView w v0 a -> QView w v1 b -> a.length <= 2097152 -> b.length <= 2097152 ->
   Calls Tryz.prog 42 #[v0, v1] w fun e w' => e = .returned (.bool (decide (0 < (meetS a b).length))) /\ Below w.heap.size w w'
theorem patchValid1_l (l : List QuadL) (v : Value) (g : Nat) (w : World) (hT : TabAt w) (hM : MaxAt w) (c0 : w.cell? ⟨g, 0, none⟩ = some v) (hV : QView w v l) (hN : Neat l) :
   Calls Tryz.prog 37 #[.slice (some ⟨g, 0, none⟩) 1 1] w fun e w' => e = .returned (.int .i64 (validF l).2) /\ Below w.heap.size w w' := by
 have h := patchValid_l [l] [v] g w hT hM rfl (fun i h => by obtain rfl : i = 0 := by simpa using h
                                                             exact c0) (fun i h => by obtain rfl : i = 0 := by simpa using h
                                                                                      exact hV) (fun x hx => by obtain rfl : x = l := by simpa using hx
                                                                                                                exact hN) (by simp)
 rw [validAll_1] at h
 exact h
theorem patchValid2_l (l m : List QuadL) (v u : Value) (g : Nat) (w : World) (hT : TabAt w) (hM : MaxAt w) (c0 : w.cell? ⟨g, 0, none⟩ = some v) (c1 : w.cell? ⟨g, 1, none⟩ = some u) (hV : QView w v l) (hU : QView w u m) (hN : Neat l) (hO : Neat m) :
   Calls Tryz.prog 37 #[.slice (some ⟨g, 0, none⟩) 2 2] w fun e w' => e = .returned (.int .i64 (firstN (validF l).2 (validF m).2)) /\ Below w.heap.size w w' := by
 have h := patchValid_l [l, m] [v, u] g w hT hM rfl (fun i h => match i, h with | 0, _ => c0 | 1, _ => c1) (fun i h => match i, h with | 0, _ => hV | 1, _ => hU)
   (fun x hx => by
     rcases List.mem_cons.1 hx with rfl | hx
     · exact hN
     · obtain rfl : x = m := by simpa using hx
       exact hO) (by simp)
 rw [validAll_2] at h
 exact h
theorem box2_new {w w3 : World} {x y : Value} {T : TypeId} {o : Obj} (hb : Below ((w.alloc (.cells #[x, y] T)).alloc o).heap.size ((w.alloc (.cells #[x, y] T)).alloc o) w3) : Box2 w w.heap.size x y w3 /\ Below w.heap.size w w3 := by
 have h1 : Below (w.alloc (.cells #[x, y] T)).heap.size (w.alloc (.cells #[x, y] T)) w3 := ((Below.refl _ _).alloc (Nat.le_refl _) _).trans (hb.mono (by simp))
 exact ⟨Box2.mk0.later h1, ((Below.refl _ _).alloc (Nat.le_refl _) _).trans (h1.mono (by simp))⟩
theorem QView.form {w : World} {v : Value} {l : List QuadL} (h : QView w v l) : ∃ a cap, v = .slice a l.length cap := by
 obtain ⟨a, cap, rfl, _⟩ := h
 exact ⟨a, cap, rfl⟩
def PView (w : World) (mv pv : Value) (p : PatchL) : Prop := QView w mv p.minus /\ QView w pv p.plus
theorem PView.below {w w' : World} {mv pv : Value} {p : PatchL} (h : PView w mv pv p) (hb : Below w.heap.size w w') : PView w' mv pv p := ⟨h.1.below hb, h.2.below hb⟩
def PFresh (base : Nat) (mv pv : Value) (p : PatchL) (w : World) : Prop := QOwn base mv p.minus w /\ QOwn base pv p.plus w /\ Apart mv pv
theorem PFresh.view {base : Nat} {mv pv : Value} {p : PatchL} {w : World} (h : PFresh base mv pv p w) : PView w mv pv p := ⟨h.1.view, h.2.1.view⟩
theorem PFresh.nil (base : Nat) (w : World) : PFresh base (.slice none 0 0) (.slice none 0 0) noPatch w := ⟨QOwn.nil _ _, QOwn.nil _ _, Apart.nil_left _⟩
theorem PFresh.below {base : Nat} {mv pv : Value} {p : PatchL} {w w' : World} (h : PFresh base mv pv p w) (hb : Below w.heap.size w w') : PFresh base mv pv p w' := ⟨h.1.below hb, h.2.1.below hb, h.2.2⟩
def NeatP (p : PatchL) : Prop := Neat p.minus /\ Neat p.plus
set_option maxHeartbeats 1000000 in
theorem patchCheck_l (O : SetOK) (p : PatchL) (mv pv : Value) (w : World) (hT : TabAt w) (hM : MaxAt w) (h : PView w mv pv p) (hN : NeatP p) :
   Calls Tryz.prog 22 #[.agg #[mv, pv]] w fun e w' => e = .returned (.int .i64 (checkN p)) /\ Below w.heap.size w w' := by
 have V2 := Lib.hid (fun (g : Nat) (u : World) (hb : Below w.heap.size w u) (c0 : u.cell? ⟨g, 0, none⟩ = some mv) (c1 : u.cell? ⟨g, 1, none⟩ = some pv) => patchValid2_l p.minus p.plus mv pv g u (hT.below hb) (hM.below hb) c0 c1 (h.1.below hb) (h.2.below hb) hN.1 hN.2)
 have ME := Lib.hid (fun (u : World) (hb : Below w.heap.size w u) => O.meet p.minus p.plus mv pv u (h.1.below hb) (h.2.below hb) (by have := hN.1.1; omega) (by have := hN.2.1; omega))
 have HC : Hid (checkN p = firstN (firstN (validF p.minus).2 (validF p.plus).2) (if meetS p.minus p.plus = [] then 0 else 230)) := Lib.hid rfl
 have HB0 : Hid (∀ o1 o2, Below w.heap.size w ((w.alloc o1).alloc o2)) := Lib.hid (fun o1 o2 => ((Below.refl _ _).alloc (Nat.le_refl _) _).alloc (by simp) _)
 obtain ⟨pm, cm, rfl⟩ := h.1.form
 obtain ⟨pp, cp, rfl⟩ := h.2.form
 clear hT hM h hN O
 obtain ⟨n, hn⟩ : ∃ n, firstN (validF p.minus).2 (validF p.plus).2 = n := ⟨_, rfl⟩
 rw [hn] at V2 HC
 clear hn
 by_cases n0 : n = 0
 · have q9 : (n != 0) = false := by rw [n0]; rfl
   by_cases hm : 0 < (meetS p.minus p.plus).length
   · rw [decide_eq_true hm] at ME
     have HE : Hid (checkN p = 230) := Lib.hid (by rw [HC.out, n0, if_neg (fun e => by rw [e] at hm; simp at hm)]; rfl)
     clear hm n0 HC
     go_enter Tryz.func22, Tryz.ntmps22
     go_wp2_with (first | (go_at_call 37; (with_reducible refine (V2.out _ _ (HB0.out _ _) ?c0 ?c1).mono ?_); (case c0 => go_simp); (case c1 => go_simp); rintro e w3 ⟨rfl, hb3⟩; obtain ⟨⟨c0, c1, f0, f1, hlt⟩, hbw⟩ := box2_new hb3; have HB := Lib.hid hbw; clear hb3 hbw hlt) | (go_at_call 42; (with_reducible refine (ME.out _ HB.out).mono ?_); rintro e w4 ⟨rfl, hb4⟩; have HB4 := Lib.hid (HB.out.trans (hb4.mono HB.out.size)); clear hb4))
     go_ret
     exact ⟨ret_i64 HE.out.symm, HB4.out⟩
   · rw [decide_eq_false hm] at ME
     have HE : Hid (checkN p = 0) := Lib.hid (by rw [HC.out, n0, if_pos (List.eq_nil_of_length_eq_zero (by omega))]; rfl)
     clear hm n0 HC
     go_enter Tryz.func22, Tryz.ntmps22
     go_wp2_with (first | (go_at_call 37; (with_reducible refine (V2.out _ _ (HB0.out _ _) ?c0 ?c1).mono ?_); (case c0 => go_simp); (case c1 => go_simp); rintro e w3 ⟨rfl, hb3⟩; obtain ⟨⟨c0, c1, f0, f1, hlt⟩, hbw⟩ := box2_new hb3; have HB := Lib.hid hbw; clear hb3 hbw hlt) | (go_at_call 42; (with_reducible refine (ME.out _ HB.out).mono ?_); rintro e w4 ⟨rfl, hb4⟩; have HB4 := Lib.hid (HB.out.trans (hb4.mono HB.out.size)); clear hb4))
     go_ret
     exact ⟨ret_i64 HE.out.symm, HB4.out⟩
 · have q9 : (n != 0) = true := by rw [bne, kne n0]; rfl
   have HE : Hid (checkN p = n) := Lib.hid (by rw [HC.out]; unfold firstN; rw [if_pos n0])
   clear n0 HC
   go_enter Tryz.func22, Tryz.ntmps22
   go_wp2_with (go_at_call 37; (with_reducible refine (V2.out _ _ (HB0.out _ _) ?c0 ?c1).mono ?_); (case c0 => go_simp); (case c1 => go_simp); rintro e w3 ⟨rfl, hb3⟩; obtain ⟨⟨c0, c1, f0, f1, hlt⟩, hbw⟩ := box2_new hb3; have HB := Lib.hid hbw; clear hb3 hbw hlt)
   go_ret
   exact ⟨ret_i64 HE.out.symm, HB.out⟩
theorem Box2.stored {w w1 : World} {g : Nat} {x y u v : Value} (h : Box2 w g x y w1) : Box2 w g u v ((w1.setCell ⟨g, 0, none⟩ u).setCell ⟨g, 1, none⟩ v) := by
 refine ⟨?_, ?_, ?_, ?_, ?_⟩
 · rw [World.cell?_setCell_other _ _ _ _ (by simp), World.cell?_setCell_same _ _ _ h.c0]
 · rw [World.cell?_setCell_same _ _ _ (by rw [World.cell?_setCell_other _ _ _ _ (by simp)]; exact h.c1)]
 · rw [World.frozen?_setCell, World.frozen?_setCell]; exact h.f0
 · rw [World.frozen?_setCell, World.frozen?_setCell]; exact h.f1
 · simp; exact h.lt
theorem patch_fin {w w3 w4 w5 : World} {a b : List QuadL} {mv pv : Value} (hN : w.heap.size < w3.heap.size) (b3 : Below w.heap.size w w3) (hm : QOwn w3.heap.size mv a w4) (b4 : Below w3.heap.size w3 w4) (hp : QOwn w4.heap.size pv b w5) (b5 : Below w4.heap.size w4 w5) :
   PFresh w.heap.size mv pv ⟨a, b⟩ ((w5.setCell ⟨w.heap.size, 0, none⟩ mv).setCell ⟨w.heap.size, 1, none⟩ pv) /\ Below w.heap.size w ((w5.setCell ⟨w.heap.size, 0, none⟩ mv).setCell ⟨w.heap.size, 1, none⟩ pv) := by
 have h4 := b4.size
 refine ⟨⟨(((hm.below b5).set ⟨w.heap.size, 0, none⟩ mv hN).set ⟨w.heap.size, 1, none⟩ pv hN).less (Nat.le_of_lt hN), (((hp.set ⟨w.heap.size, 0, none⟩ mv (by simp only; omega)).set ⟨w.heap.size, 1, none⟩ pv (by simp only; omega)).less (by omega)), hm.apart hp (Nat.le_refl _)⟩, ?_⟩
 exact (((b3.trans (b4.mono b3.size)).trans (b5.mono (by omega))).setCell (p := ⟨w.heap.size, 0, none⟩) (Nat.le_refl _) _).setCell (p := ⟨w.heap.size, 1, none⟩) (Nat.le_refl _) _
set_option maxHeartbeats 1000000 in
theorem patchDiff_l (O : SetOK) (a b : List QuadL) (v0 v1 : Value) (w : World) (hT : TabAt w) (hM : MaxAt w) (h0 : QView w v0 a) (h1 : QView w v1 b) (n0 : Neat a) (n1 : Neat b) :
   Calls Tryz.prog 15 #[v0, v1] w fun e w' => ∃ mv pv, e = .returned (.tuple #[.agg #[mv, pv], .int .i64 (diffN a b).2]) /\ PFresh w.heap.size mv pv (diffN a b).1 w' /\ Below w.heap.size w w' := by
 have V2 := Lib.hid (fun (g : Nat) (u : World) (hb : Below w.heap.size w u) (c0 : u.cell? ⟨g, 0, none⟩ = some v0) (c1 : u.cell? ⟨g, 1, none⟩ = some v1) => patchValid2_l a b v0 v1 g u (hT.below hb) (hM.below hb) c0 c1 (h0.below hb) (h1.below hb) n0 n1)
 have M1 := Lib.hid (fun (u : World) (hb : Below w.heap.size w u) => O.minus a b v0 v1 u (h0.below hb) (h1.below hb) (by have := n0.1; omega) (by have := n1.1; omega))
 have M2 := Lib.hid (fun (u : World) (hb : Below w.heap.size w u) => O.minus b a v1 v0 u (h1.below hb) (h0.below hb) (by have := n1.1; omega) (by have := n0.1; omega))
 have HB0 : Hid (∀ o1 o2, Below w.heap.size w ((w.alloc o1).alloc o2)) := Lib.hid (fun o1 o2 => ((Below.refl _ _).alloc (Nat.le_refl _) _).alloc (by simp) _)
 have HD : Hid (diffN a b = if firstN (validF a).2 (validF b).2 ≠ 0 then (noPatch, firstN (validF a).2 (validF b).2) else (⟨minusS a b, minusS b a⟩, 0)) := Lib.hid rfl
 obtain ⟨pm, cm, rfl⟩ := h0.form
 obtain ⟨pp, cp, rfl⟩ := h1.form
 clear hT hM h0 h1 n0 n1 O
 obtain ⟨n, hn⟩ : ∃ n, firstN (validF a).2 (validF b).2 = n := ⟨_, rfl⟩
 rw [hn] at V2 HD
 clear hn
 by_cases n0 : n = 0
 · have q9 : (n != 0) = false := by rw [n0]; rfl
   have HE : Hid (diffN a b = (⟨minusS a b, minusS b a⟩, 0)) := Lib.hid (by rw [HD.out, if_neg (fun h => h n0)])
   clear n0 HD
   go_enter Tryz.func15, Tryz.ntmps15
   go_wp2_with (first | (go_at_call 37; (with_reducible refine (V2.out _ _ (HB0.out _ _) ?c0 ?c1).mono ?_); (case c0 => go_simp); (case c1 => go_simp); rintro e w3 ⟨rfl, hb3⟩; have BX := Lib.hid (box2_new hb3); clear hb3) | (go_at_call 38; (with_reducible refine (M1.out _ BX.out.2).mono ?_); rintro e w4 ⟨mv, rfl, ho4, hb4⟩; obtain ⟨pa1, ca1, rfl⟩ := ho4.view.form; have HO4 := Lib.hid ho4; have HB4 := Lib.hid hb4; clear ho4 hb4 M1) | (go_at_call 38; (with_reducible refine (M2.out _ (BX.out.2.trans (HB4.out.mono BX.out.2.size))).mono ?_); rintro e w5 ⟨pv, rfl, ho5, hb5⟩; obtain ⟨pa2, ca2, rfl⟩ := ho5.view.form; have HO5 := Lib.hid ho5; have HB5 := Lib.hid hb5; clear ho5 hb5 M2; obtain ⟨c0, c1, f0, f1, hlt⟩ := (BX.out.1.later HB4.out).later HB5.out; clear hlt))
   refine bodyPost_ret (v := .tuple #[.agg #[.slice pa1 (minusS a b).length ca1, .slice pa2 (minusS b a).length ca2], .int .i64 0]) (by simp [results, Tryz.results15, go_sem, c0, c1]) rfl ?_
   obtain ⟨f1, f2⟩ := patch_fin BX.out.1.lt BX.out.2 HO4.out HB4.out HO5.out HB5.out
   exact ⟨_, _, by rw [HE.out], by rw [HE.out]; exact f1, f2⟩
 · have q9 : (n != 0) = true := by rw [bne, kne n0]; rfl
   have HE : Hid (diffN a b = (noPatch, n)) := Lib.hid (by rw [HD.out, if_pos n0])
   clear n0 HD
   go_enter Tryz.func15, Tryz.ntmps15
   go_wp2_with (go_at_call 37; (with_reducible refine (V2.out _ _ (HB0.out _ _) ?c0 ?c1).mono ?_); (case c0 => go_simp); (case c1 => go_simp); rintro e w3 ⟨rfl, hb3⟩; obtain ⟨⟨c0, c1, f0, f1, hlt⟩, hbw⟩ := box2_new hb3; have HB := Lib.hid hbw; clear hb3 hbw hlt)
   refine bodyPost_ret (v := .tuple #[.agg #[.slice none 0 0, .slice none 0 0], .int .i64 n]) (by simp [results, Tryz.results15, go_sem, c0, c1]) rfl ?_
   exact ⟨_, _, by rw [HE.out], by rw [HE.out]; exact PFresh.nil _ _, (HB.out.setCell (p := ⟨w.heap.size, 0, none⟩) (Nat.le_refl _) _).setCell (p := ⟨w.heap.size, 1, none⟩) (Nat.le_refl _) _⟩
end Go.Proofs.YtmnigckpejcaeaaGreatDoor
namespace Go.Proofs.YtmnigckpejcaeaaGreatDoor
open Go.RowKit
set_option maxRecDepth 100000
theorem step_below {W u w3 : World} {o : Obj} (h : Below W.heap.size W u) (hb : Below (u.alloc o).heap.size (u.alloc o) w3) : Below W.heap.size W w3 := (h.alloc h.size _).trans (hb.mono (by simp; have := h.size; omega))
theorem unionS_len (a b : List QuadL) : (unionS a b).length <= a.length + b.length := by
 unfold unionS
 split
 · exact mergeF_len _ _ _ _ a b (Nat.le_refl _)
 · simp
theorem minusS_len (a b : List QuadL) : (minusS a b).length <= a.length := by
 cases h : riseB a && riseB b with
 | false => unfold minusS; rw [h]; simp
 | true =>
   rw [Bool.and_eq_true, riseB_iff, riseB_iff] at h
   exact minus_len h.1 h.2
theorem held_box {w w' : World} {x y : Value} {T : TypeId} (h : Below (w.alloc (.cells #[x, y] T)).heap.size (w.alloc (.cells #[x, y] T)) w') : w'.cell? ⟨w.heap.size, 0, none⟩ = some x /\ w'.cell? ⟨w.heap.size, 1, none⟩ = some y :=
 ⟨(Box2.mk0.later h).c0, (Box2.mk0.later h).c1⟩
set_option maxHeartbeats 4000000 in
theorem behind_l (O : SetOK) (must : Bool) (l : List QuadL) (v0 : Value) (p : PatchL) (mv pv : Value) (w : World) (hT : TabAt w) (hM : MaxAt w) (h0 : QView w v0 l) (h : PView w mv pv p) (n0 : Neat l) (hN : NeatP p) :
   Calls Tryz.prog 40 #[v0, .agg #[mv, pv], .bool must] w fun e w' => ∃ v, e = .returned (.tuple #[v, .int .i64 (behindN must l p).2]) /\ QOwn w.heap.size v (behindN must l p).1 w' /\ Below w.heap.size w w' := by
 have V1 := Lib.hid (fun (g : Nat) (u : World) (hb : Below w.heap.size w u) (c0 : u.cell? ⟨g, 0, none⟩ = some v0) => patchValid1_l l v0 g u (hT.below hb) (hM.below hb) c0 (h0.below hb) n0)
 have CK := Lib.hid (fun (u : World) (hb : Below w.heap.size w u) => patchCheck_l O p mv pv u (hT.below hb) (hM.below hb) (h.below hb) hN)
 have M1 := Lib.hid (fun (u : World) (hb : Below w.heap.size w u) => O.minus p.minus l mv v0 u (h.1.below hb) (h0.below hb) (by have := hN.1.1; omega) (by have := n0.1; omega))
 have M2 := Lib.hid (fun (u : World) (hb : Below w.heap.size w u) => O.minus l p.minus v0 mv u (h0.below hb) (h.1.below hb) (by have := n0.1; omega) (by have := hN.1.1; omega))
 have ME := Lib.hid (fun (u : World) (hb : Below w.heap.size w u) => O.meet p.plus l pv v0 u (h.2.below hb) (h0.below hb) (by have := hN.2.1; omega) (by have := n0.1; omega))
 have UN := Lib.hid (fun (u : World) (hb : Below w.heap.size w u) (d : List QuadL) (v : Value) (hv : QView u v d) => fun (hd : d.length <= 2097152) => O.union d p.plus v pv u hv (h.2.below hb) hd (by have := hN.2.1; omega))
 have lenU : (unionS (minusS l p.minus) p.plus).length <= 1048576 := by
   have := unionS_len (minusS l p.minus) p.plus
   have := minusS_len l p.minus
   have := n0.1
   have := hN.2.1
   omega
 have lenM : (minusS l p.minus).length <= 2097152 := by
   have := minusS_len l p.minus
   have := n0.1
   omega
 have OR := Lib.hid (fun (g : Nat) (u : World) => orErr_l (validF l).2 (checkN p) g u)
 have HD : Hid (behindN must l p = if firstN (validF l).2 (checkN p) ≠ 0 then ([], firstN (validF l).2 (checkN p)) else if must = true /\ ¬ (minusS p.minus l = [] /\ meetS p.plus l = []) then ([], 230)
   else if 1048576 < (unionS (minusS l p.minus) p.plus).length then ([], 2) else (unionS (minusS l p.minus) p.plus, 0)) := Lib.hid rfl
 obtain ⟨pa, ca, rfl⟩ := h0.form
 obtain ⟨pm, cm, rfl⟩ := h.1.form
 obtain ⟨pp, cp, rfl⟩ := h.2.form
 have HB0 : Hid (Below w.heap.size w (w.alloc (.cells #[.slice pm p.minus.length cm, .slice pp p.plus.length cp] 24))) := Lib.hid ((Below.refl _ _).alloc (Nat.le_refl _) _)
 have SB0 : Hid (∀ w', Below (w.alloc (.cells #[.slice pm p.minus.length cm, .slice pp p.plus.length cp] 24)).heap.size (w.alloc (.cells #[.slice pm p.minus.length cm, .slice pp p.plus.length cp] 24)) w' -> w'.cell? ⟨w.heap.size, 0, none⟩ = some (.slice pm p.minus.length cm) /\ w'.cell? ⟨w.heap.size, 1, none⟩ = some (.slice pp p.plus.length cp)) := Lib.hid (fun w' h => held_box h)
 clear hT hM h0 h n0 hN O
 obtain ⟨n, hn⟩ : ∃ n, firstN (validF l).2 (checkN p) = n := ⟨_, rfl⟩
 rw [hn] at HD
 rw [orI_firstN, hn] at OR
 clear hn
 obtain ⟨W, hW⟩ : ∃ W, w.alloc (.cells #[.slice pm p.minus.length cm, .slice pp p.plus.length cp] 24) = W := ⟨_, rfl⟩
 rw [hW] at HB0 SB0
 have SB := SB0
 clear SB0
 have HB7 : Hid (Below W.heap.size W W.drew) := Lib.hid (below_drewN W 1)
 by_cases n0 : n = 0
 · have q9 : (n != 0) = false := by rw [n0]; rfl
   have HD2 : Hid (behindN must l p = if must = true /\ ¬ (minusS p.minus l = [] /\ meetS p.plus l = []) then ([], 230) else (unionS (minusS l p.minus) p.plus, 0)) := Lib.hid (by
     rw [HD.out, if_neg (fun h => h n0), if_neg (c := 1048576 < (unionS (minusS l p.minus) p.plus).length) (by omega)])
   clear HD n0
   have st : (must = false) \/ (must = true /\ 0 < (minusS p.minus l).length) \/ (must = true /\ (minusS p.minus l).length = 0 /\ 0 < (meetS p.plus l).length) \/ (must = true /\ (minusS p.minus l).length = 0 /\ (meetS p.plus l).length = 0) := by
     rcases Bool.eq_false_or_eq_true must with h | h
     · by_cases e1 : 0 < (minusS p.minus l).length
       · exact .inr (.inl ⟨h, e1⟩)
       · by_cases e2 : 0 < (meetS p.plus l).length
         · exact .inr (.inr (.inl ⟨h, by omega, e2⟩))
         · exact .inr (.inr (.inr ⟨h, by omega, by omega⟩))
     · exact .inl h
   have U0 : decide ((1048576 : Int) < ((unionS (minusS l p.minus) p.plus).length : Int)) = false := decide_eq_false (by omega)
   rcases st with rfl | ⟨rfl, h1⟩ | ⟨rfl, h1, h2⟩ | ⟨rfl, h1, h2⟩
   · as_aux_lemma =>
     have HE : Hid (behindN false l p = (unionS (minusS l p.minus) p.plus, 0)) := Lib.hid (by rw [HD2.out, if_neg (fun h => by cases h.1)])
     clear HD2
     go_enter Tryz.func40, Tryz.ntmps40
     go_wp2_with fail
     go_region_held3 (fun w' => w'.cell? ⟨w.heap.size, 0, none⟩ = some (.slice pm p.minus.length cm) /\ w'.cell? ⟨w.heap.size, 1, none⟩ = some (.slice pp p.plus.length cp)) (first | exact SB.out _ HB7.out | exact SB.out _ (HB7.out.alloc HB7.out.size _)) (first | (go_at_call 37; (with_reducible refine (V1.out _ _ ?hb ?c0).mono ?_); (case hb => exact HB0.out.trans ((HB7.out.alloc HB7.out.size _).mono HB0.out.size)); (case c0 => go_simp); rintro e w3 ⟨rfl, hb3⟩; have HB8 := Lib.hid (step_below HB7.out hb3); clear HB7 hb3; have HB7 := HB8; clear HB8) | (go_at_call 22; (with_reducible refine (CK.out _ ?hb).mono ?_); (case hb => exact HB0.out.trans (HB7.out.mono HB0.out.size)); rintro e w4 ⟨rfl, hb4⟩; have HB8 := Lib.hid (HB7.out.trans (hb4.mono HB7.out.size)); clear HB7 hb4; have HB7 := HB8; clear HB8) | (go_at_call 65; (with_reducible refine (OR.out _ _ ?c0 ?c1).mono ?_); (case c0 => go_simp); (case c1 => go_simp); rintro e w5 ⟨rfl, rfl⟩))
     have HB9 := Lib.hid (HB7.out.alloc HB7.out.size (.cells #[.int .i64 (validF l).2, .int .i64 (checkN p)] 28))
     clear HB7
     have HB7 := HB9
     clear HB9
     obtain ⟨c0, c1⟩ := SB.out _ HB7.out
     go_wp2_with fail
     clear c0 c1
     have HB9 := Lib.hid (below_drewN _ 1 |> fun h => HB7.out.trans (h.mono HB7.out.size))
     clear HB7
     have HB7 := HB9
     clear HB9
     go_region_held3 (fun w' => w'.cell? ⟨w.heap.size, 0, none⟩ = some (.slice pm p.minus.length cm) /\ w'.cell? ⟨w.heap.size, 1, none⟩ = some (.slice pp p.plus.length cp)) (first | exact SB.out _ HB7.out | exact SB.out _ (HB7.out.alloc HB7.out.size _)) (first | (go_at_call 38; (with_reducible refine (M2.out _ ?hb).mono ?_); (case hb => exact HB0.out.trans (HB7.out.mono HB0.out.size)); rintro e w9 ⟨vv, rfl, ho, hb9⟩; obtain ⟨qa9, qc9, rfl⟩ := ho.view.form; have HO9 := Lib.hid ho; have HB8 := Lib.hid (HB7.out.trans (hb9.mono HB7.out.size)); have HX9 := Lib.hid hb9; clear HB7 ho hb9; have HB7 := HB8; clear HB8) | (go_at_call 66; (with_reducible refine (UN.out _ ?hb _ _ HO9.out.view lenM).mono ?_); (case hb => exact HB0.out.trans (HB7.out.mono HB0.out.size)); rintro e w10 ⟨vv, rfl, ho, hb10⟩; obtain ⟨qa10, qc10, rfl⟩ := ho.view.form; have HO10 := Lib.hid ho; have HB8 := Lib.hid (HB7.out.trans (hb10.mono HB7.out.size)); have HX10 := Lib.hid (HB0.out.trans (HB7.out.mono HB0.out.size)); clear HB7 ho hb10; have HB7 := HB8; clear HB8))
     go_wp2_with fail
     go_ret2
     exact ⟨_, by rw [HE.out]; rfl, by rw [HE.out]; exact HO10.out.less HX10.out.size, HB0.out.trans (HB7.out.mono HB0.out.size)⟩
   · as_aux_lemma =>
     have HE : Hid (behindN true l p = ([], 230)) := Lib.hid (by rw [HD2.out, if_pos ⟨rfl, fun h => by rw [h.1] at h1; simp at h1⟩])
     have t1 : decide ((0 : Int) < ((minusS p.minus l).length : Int)) = true := decide_eq_true (by omega)
     clear HD2 lenU U0
     go_enter Tryz.func40, Tryz.ntmps40
     go_wp2_with fail
     go_region_held3 (fun w' => w'.cell? ⟨w.heap.size, 0, none⟩ = some (.slice pm p.minus.length cm) /\ w'.cell? ⟨w.heap.size, 1, none⟩ = some (.slice pp p.plus.length cp)) (first | exact SB.out _ HB7.out | exact SB.out _ (HB7.out.alloc HB7.out.size _)) (first | (go_at_call 37; (with_reducible refine (V1.out _ _ ?hb ?c0).mono ?_); (case hb => exact HB0.out.trans ((HB7.out.alloc HB7.out.size _).mono HB0.out.size)); (case c0 => go_simp); rintro e w3 ⟨rfl, hb3⟩; have HB8 := Lib.hid (step_below HB7.out hb3); clear HB7 hb3; have HB7 := HB8; clear HB8) | (go_at_call 22; (with_reducible refine (CK.out _ ?hb).mono ?_); (case hb => exact HB0.out.trans (HB7.out.mono HB0.out.size)); rintro e w4 ⟨rfl, hb4⟩; have HB8 := Lib.hid (HB7.out.trans (hb4.mono HB7.out.size)); clear HB7 hb4; have HB7 := HB8; clear HB8) | (go_at_call 65; (with_reducible refine (OR.out _ _ ?c0 ?c1).mono ?_); (case c0 => go_simp); (case c1 => go_simp); rintro e w5 ⟨rfl, rfl⟩))
     have HB9 := Lib.hid (HB7.out.alloc HB7.out.size (.cells #[.int .i64 (validF l).2, .int .i64 (checkN p)] 28))
     clear HB7
     have HB7 := HB9
     clear HB9
     obtain ⟨c0, c1⟩ := SB.out _ HB7.out
     go_wp2_with ((go_at_call 38; (with_reducible refine (M1.out _ ?hb).mono ?_); (case hb => exact HB0.out.trans (HB7.out.mono HB0.out.size)); rintro e w6 ⟨vv, rfl, ho, hb6⟩; obtain ⟨qa6, qc6, rfl⟩ := ho.view.form; have HO6 := Lib.hid ho; have HB8 := Lib.hid (HB7.out.trans (hb6.mono HB7.out.size)); have HX6 := Lib.hid hb6; clear HB7 ho hb6; have HB7 := HB8; clear HB8))
     go_ret2
     exact ⟨.slice none 0 0, by rw [HE.out]; rfl, by rw [HE.out]; exact QOwn.nil _ _, HB0.out.trans (HB7.out.mono HB0.out.size)⟩
   · as_aux_lemma =>
     have HE : Hid (behindN true l p = ([], 230)) := Lib.hid (by rw [HD2.out, if_pos ⟨rfl, fun h => by rw [h.2] at h2; simp at h2⟩])
     have t1 : decide ((0 : Int) < ((minusS p.minus l).length : Int)) = false := decide_eq_false (by omega)
     rw [decide_eq_true h2] at ME
     clear HD2 lenU U0
     go_enter Tryz.func40, Tryz.ntmps40
     go_wp2_with fail
     go_region_held3 (fun w' => w'.cell? ⟨w.heap.size, 0, none⟩ = some (.slice pm p.minus.length cm) /\ w'.cell? ⟨w.heap.size, 1, none⟩ = some (.slice pp p.plus.length cp)) (first | exact SB.out _ HB7.out | exact SB.out _ (HB7.out.alloc HB7.out.size _)) (first | (go_at_call 37; (with_reducible refine (V1.out _ _ ?hb ?c0).mono ?_); (case hb => exact HB0.out.trans ((HB7.out.alloc HB7.out.size _).mono HB0.out.size)); (case c0 => go_simp); rintro e w3 ⟨rfl, hb3⟩; have HB8 := Lib.hid (step_below HB7.out hb3); clear HB7 hb3; have HB7 := HB8; clear HB8) | (go_at_call 22; (with_reducible refine (CK.out _ ?hb).mono ?_); (case hb => exact HB0.out.trans (HB7.out.mono HB0.out.size)); rintro e w4 ⟨rfl, hb4⟩; have HB8 := Lib.hid (HB7.out.trans (hb4.mono HB7.out.size)); clear HB7 hb4; have HB7 := HB8; clear HB8) | (go_at_call 65; (with_reducible refine (OR.out _ _ ?c0 ?c1).mono ?_); (case c0 => go_simp); (case c1 => go_simp); rintro e w5 ⟨rfl, rfl⟩))
     have HB9 := Lib.hid (HB7.out.alloc HB7.out.size (.cells #[.int .i64 (validF l).2, .int .i64 (checkN p)] 28))
     clear HB7
     have HB7 := HB9
     clear HB9
     obtain ⟨c0, c1⟩ := SB.out _ HB7.out
     go_wp2_with (first | (go_at_call 38; (with_reducible refine (M1.out _ ?hb).mono ?_); (case hb => exact HB0.out.trans (HB7.out.mono HB0.out.size)); rintro e w6 ⟨vv, rfl, ho, hb6⟩; obtain ⟨qa6, qc6, rfl⟩ := ho.view.form; have HO6 := Lib.hid ho; have HB8 := Lib.hid (HB7.out.trans (hb6.mono HB7.out.size)); have HX6 := Lib.hid hb6; clear HB7 ho hb6; have HB7 := HB8; clear HB8; obtain ⟨c0, c1⟩ := SB.out _ HB7.out) | (go_at_call 42; (with_reducible refine (ME.out _ ?hb).mono ?_); (case hb => exact HB0.out.trans (HB7.out.mono HB0.out.size)); rintro e w7 ⟨rfl, hb7⟩; have HB8 := Lib.hid (HB7.out.trans (hb7.mono HB7.out.size)); clear HB7 hb7; have HB7 := HB8; clear HB8))
     go_ret2
     exact ⟨.slice none 0 0, by rw [HE.out]; rfl, by rw [HE.out]; exact QOwn.nil _ _, HB0.out.trans (HB7.out.mono HB0.out.size)⟩
   · as_aux_lemma =>
     have HE : Hid (behindN true l p = (unionS (minusS l p.minus) p.plus, 0)) := Lib.hid (by rw [HD2.out, if_neg (fun h => h.2 ⟨List.eq_nil_of_length_eq_zero h1, List.eq_nil_of_length_eq_zero h2⟩)])
     have t1 : decide ((0 : Int) < ((minusS p.minus l).length : Int)) = false := decide_eq_false (by omega)
     rw [decide_eq_false (by omega)] at ME
     clear HD2
     go_enter Tryz.func40, Tryz.ntmps40
     go_wp2_with fail
     go_region_held3 (fun w' => w'.cell? ⟨w.heap.size, 0, none⟩ = some (.slice pm p.minus.length cm) /\ w'.cell? ⟨w.heap.size, 1, none⟩ = some (.slice pp p.plus.length cp)) (first | exact SB.out _ HB7.out | exact SB.out _ (HB7.out.alloc HB7.out.size _)) (first | (go_at_call 37; (with_reducible refine (V1.out _ _ ?hb ?c0).mono ?_); (case hb => exact HB0.out.trans ((HB7.out.alloc HB7.out.size _).mono HB0.out.size)); (case c0 => go_simp); rintro e w3 ⟨rfl, hb3⟩; have HB8 := Lib.hid (step_below HB7.out hb3); clear HB7 hb3; have HB7 := HB8; clear HB8) | (go_at_call 22; (with_reducible refine (CK.out _ ?hb).mono ?_); (case hb => exact HB0.out.trans (HB7.out.mono HB0.out.size)); rintro e w4 ⟨rfl, hb4⟩; have HB8 := Lib.hid (HB7.out.trans (hb4.mono HB7.out.size)); clear HB7 hb4; have HB7 := HB8; clear HB8) | (go_at_call 65; (with_reducible refine (OR.out _ _ ?c0 ?c1).mono ?_); (case c0 => go_simp); (case c1 => go_simp); rintro e w5 ⟨rfl, rfl⟩))
     have HB9 := Lib.hid (HB7.out.alloc HB7.out.size (.cells #[.int .i64 (validF l).2, .int .i64 (checkN p)] 28))
     clear HB7
     have HB7 := HB9
     clear HB9
     obtain ⟨c0, c1⟩ := SB.out _ HB7.out
     go_wp2_with (first | (go_at_call 38; (with_reducible refine (M1.out _ ?hb).mono ?_); (case hb => exact HB0.out.trans (HB7.out.mono HB0.out.size)); rintro e w6 ⟨vv, rfl, ho, hb6⟩; obtain ⟨qa6, qc6, rfl⟩ := ho.view.form; have HO6 := Lib.hid ho; have HB8 := Lib.hid (HB7.out.trans (hb6.mono HB7.out.size)); have HX6 := Lib.hid hb6; clear HB7 ho hb6; have HB7 := HB8; clear HB8; obtain ⟨c0, c1⟩ := SB.out _ HB7.out) | (go_at_call 42; (with_reducible refine (ME.out _ ?hb).mono ?_); (case hb => exact HB0.out.trans (HB7.out.mono HB0.out.size)); rintro e w7 ⟨rfl, hb7⟩; have HB8 := Lib.hid (HB7.out.trans (hb7.mono HB7.out.size)); clear HB7 hb7; have HB7 := HB8; clear HB8; obtain ⟨c0, c1⟩ := SB.out _ HB7.out))
     clear c0 c1
     have HB9 := Lib.hid (below_drewN _ 1 |> fun h => HB7.out.trans (h.mono HB7.out.size))
     clear HB7
     have HB7 := HB9
     clear HB9
     go_region_held3 (fun w' => w'.cell? ⟨w.heap.size, 0, none⟩ = some (.slice pm p.minus.length cm) /\ w'.cell? ⟨w.heap.size, 1, none⟩ = some (.slice pp p.plus.length cp)) (first | exact SB.out _ HB7.out | exact SB.out _ (HB7.out.alloc HB7.out.size _)) (first | (go_at_call 38; (with_reducible refine (M2.out _ ?hb).mono ?_); (case hb => exact HB0.out.trans (HB7.out.mono HB0.out.size)); rintro e w9 ⟨vv, rfl, ho, hb9⟩; obtain ⟨qa9, qc9, rfl⟩ := ho.view.form; have HO9 := Lib.hid ho; have HB8 := Lib.hid (HB7.out.trans (hb9.mono HB7.out.size)); have HX9 := Lib.hid hb9; clear HB7 ho hb9; have HB7 := HB8; clear HB8) | (go_at_call 66; (with_reducible refine (UN.out _ ?hb _ _ HO9.out.view lenM).mono ?_); (case hb => exact HB0.out.trans (HB7.out.mono HB0.out.size)); rintro e w10 ⟨vv, rfl, ho, hb10⟩; obtain ⟨qa10, qc10, rfl⟩ := ho.view.form; have HO10 := Lib.hid ho; have HB8 := Lib.hid (HB7.out.trans (hb10.mono HB7.out.size)); have HX10 := Lib.hid (HB0.out.trans (HB7.out.mono HB0.out.size)); clear HB7 ho hb10; have HB7 := HB8; clear HB8))
     go_wp2_with fail
     go_ret2
     exact ⟨_, by rw [HE.out]; rfl, by rw [HE.out]; exact HO10.out.less HX10.out.size, HB0.out.trans (HB7.out.mono HB0.out.size)⟩
 · as_aux_lemma =>
   have q9 : (n != 0) = true := by rw [bne, kne n0]; rfl
   have HE : Hid (behindN must l p = ([], n)) := Lib.hid (by rw [HD.out, if_pos n0])
   clear HD n0
   go_enter Tryz.func40, Tryz.ntmps40
   go_wp2_with fail
   go_region_held3 (fun w' => w'.cell? ⟨w.heap.size, 0, none⟩ = some (.slice pm p.minus.length cm) /\ w'.cell? ⟨w.heap.size, 1, none⟩ = some (.slice pp p.plus.length cp)) (first | exact SB.out _ HB7.out | exact SB.out _ (HB7.out.alloc HB7.out.size _)) (first | (go_at_call 37; (with_reducible refine (V1.out _ _ ?hb ?c0).mono ?_); (case hb => exact HB0.out.trans ((HB7.out.alloc HB7.out.size _).mono HB0.out.size)); (case c0 => go_simp); rintro e w3 ⟨rfl, hb3⟩; have HB8 := Lib.hid (step_below HB7.out hb3); clear HB7 hb3; have HB7 := HB8; clear HB8) | (go_at_call 22; (with_reducible refine (CK.out _ ?hb).mono ?_); (case hb => exact HB0.out.trans (HB7.out.mono HB0.out.size)); rintro e w4 ⟨rfl, hb4⟩; have HB8 := Lib.hid (HB7.out.trans (hb4.mono HB7.out.size)); clear HB7 hb4; have HB7 := HB8; clear HB8) | (go_at_call 65; (with_reducible refine (OR.out _ _ ?c0 ?c1).mono ?_); (case c0 => go_simp); (case c1 => go_simp); rintro e w5 ⟨rfl, rfl⟩))
   have HB9 := Lib.hid (HB7.out.alloc HB7.out.size (.cells #[.int .i64 (validF l).2, .int .i64 (checkN p)] 28))
   clear HB7
   have HB7 := HB9
   clear HB9
   go_wp2_with fail
   go_ret2
   exact ⟨.slice none 0 0, by rw [HE.out]; rfl, by rw [HE.out]; exact QOwn.nil _ _, HB0.out.trans (HB7.out.mono HB0.out.size)⟩
theorem apply_l (O : SetOK) (l : List QuadL) (v0 : Value) (p : PatchL) (mv pv : Value) (w : World) (hT : TabAt w) (hM : MaxAt w) (h0 : QView w v0 l) (h : PView w mv pv p) (n0 : Neat l) (hN : NeatP p) :
   Calls Tryz.prog 17 #[v0, .agg #[mv, pv]] w fun e w' => ∃ v, e = .returned (.tuple #[v, .int .i64 (behindN true l p).2]) /\ QOwn w.heap.size v (behindN true l p).1 w' /\ Below w.heap.size w w' := by
 have R := Lib.hid (fun (u : World) (hb : Below w.heap.size w u) => behind_l O true l v0 p mv pv u (hT.below hb) (hM.below hb) (h0.below hb) (h.below hb) n0 hN)
 have HB0 : Hid (∀ o1, Below w.heap.size w (w.alloc o1)) := Lib.hid (fun o1 => (Below.refl _ _).alloc (Nat.le_refl _) _)
 clear hT hM h0 h n0 hN O
 go_enter Tryz.func17, Tryz.ntmps17
 go_wp2_with (go_at_call 40; (with_reducible refine (R.out _ (HB0.out _)).mono ?_); rintro e w3 ⟨v, rfl, ho, hb⟩; have HX := Lib.hid (And.intro ho hb); clear ho hb)
 go_ret2
 exact ⟨v, rfl, HX.out.1.less (by simp), (HB0.out _).trans (HX.out.2.mono (by simp))⟩
theorem force_l (O : SetOK) (l : List QuadL) (v0 : Value) (p : PatchL) (mv pv : Value) (w : World) (hT : TabAt w) (hM : MaxAt w) (h0 : QView w v0 l) (h : PView w mv pv p) (n0 : Neat l) (hN : NeatP p) :
   Calls Tryz.prog 20 #[v0, .agg #[mv, pv]] w fun e w' => ∃ v, e = .returned (.tuple #[v, .int .i64 (behindN false l p).2]) /\ QOwn w.heap.size v (behindN false l p).1 w' /\ Below w.heap.size w w' := by
 have R := Lib.hid (fun (u : World) (hb : Below w.heap.size w u) => behind_l O false l v0 p mv pv u (hT.below hb) (hM.below hb) (h0.below hb) (h.below hb) n0 hN)
 have HB0 : Hid (∀ o1, Below w.heap.size w (w.alloc o1)) := Lib.hid (fun o1 => (Below.refl _ _).alloc (Nat.le_refl _) _)
 clear hT hM h0 h n0 hN O
 go_enter Tryz.func20, Tryz.ntmps20
 go_wp2_with (go_at_call 40; (with_reducible refine (R.out _ (HB0.out _)).mono ?_); rintro e w3 ⟨v, rfl, ho, hb⟩; have HX := Lib.hid (And.intro ho hb); clear ho hb)
 go_ret2
 exact ⟨v, rfl, HX.out.1.less (by simp), (HB0.out _).trans (HX.out.2.mono (by simp))⟩
end Go.Proofs.YtmnigckpejcaeaaGreatDoor
namespace Go.Proofs.YtmnigckpejcaeaaGreatDoor
open Go.RowKit
set_option maxRecDepth 100000
theorem Neat.minusS {a b : List QuadL} (h : Neat a) : (minusS a b).length <= 524288 := Nat.le_trans (minusS_len a b) h.1
theorem held_3 {w w' : World} {x y z u r0 r1 : Value} {T : TypeId} (h : Below (((w.alloc (.cells #[x, y] T)).alloc (.cells #[z, u] T)).alloc (.cells #[r0, r1] T)).heap.size (((w.alloc (.cells #[x, y] T)).alloc (.cells #[z, u] T)).alloc (.cells #[r0, r1] T)) w') :
   Box2 w w.heap.size x y w' /\ Box2 w (w.heap.size + 1) z u w' /\ Box2 w (w.heap.size + 1 + 1) r0 r1 w' := by
 have e1 : (w.alloc (.cells #[x, y] T)).heap.size = w.heap.size + 1 := by simp
 have e2 : ((w.alloc (.cells #[x, y] T)).alloc (.cells #[z, u] T)).heap.size = w.heap.size + 1 + 1 := by simp
 have b3 : Box2 w (w.heap.size + 1 + 1) r0 r1 (((w.alloc (.cells #[x, y] T)).alloc (.cells #[z, u] T)).alloc (.cells #[r0, r1] T)) := by
   have := Box2.mk0 (w := (w.alloc (.cells #[x, y] T)).alloc (.cells #[z, u] T)) (x := r0) (y := r1) (T := T)
   rw [e2] at this
   exact ⟨this.c0, this.c1, this.f0, this.f1, this.lt⟩
 have b2 : Box2 w (w.heap.size + 1) z u ((w.alloc (.cells #[x, y] T)).alloc (.cells #[z, u] T)) := by
   have := Box2.mk0 (w := w.alloc (.cells #[x, y] T)) (x := z) (y := u) (T := T)
   rw [e1] at this
   exact ⟨this.c0, this.c1, this.f0, this.f1, this.lt⟩
 have b1 : Box2 w w.heap.size x y (w.alloc (.cells #[x, y] T)) := Box2.mk0
 have s1 : Below (w.alloc (.cells #[x, y] T)).heap.size (w.alloc (.cells #[x, y] T)) ((w.alloc (.cells #[x, y] T)).alloc (.cells #[z, u] T)) := (Below.refl _ _).alloc (Nat.le_refl _) _
 have s2 : Below ((w.alloc (.cells #[x, y] T)).alloc (.cells #[z, u] T)).heap.size ((w.alloc (.cells #[x, y] T)).alloc (.cells #[z, u] T)) (((w.alloc (.cells #[x, y] T)).alloc (.cells #[z, u] T)).alloc (.cells #[r0, r1] T)) := (Below.refl _ _).alloc (Nat.le_refl _) _
 exact ⟨((b1.later s1).later s2).later h, (b2.later s2).later h, b3.later h⟩
theorem two_set {w : World} {b1 g : Nat} {v x y : Value} {l : List QuadL} (h : QOwn b1 v l w) (hg : v.ownBlock ≠ some g) : QOwn b1 v l ((w.setCell ⟨g, 0, none⟩ x).setCell ⟨g, 1, none⟩ y) := ownsRow_setQ (ownsRow_setQ h _ _ hg) _ _ hg
theorem block_after {w w3 : World} {cs : Array Value} {T : TypeId} (hb : Below (w.alloc (.cells cs T)).heap.size (w.alloc (.cells cs T)) w3) : w3.heap[w.heap.size]? = some (.cells cs T (0, 0)) := by
 rw [hb.block w.heap.size (by simp)]
 exact heap_alloc_new w _
theorem block_later {w w3 : World} {g : Nat} {o : Obj} (h : w.heap[g]? = some o) (hb : Below w.heap.size w w3) : w3.heap[g]? = some o := by
 rw [hb.block g (Array.getElem?_eq_some_iff.1 h).1]
 exact h
theorem le_alloc {n : Nat} {u w3 : World} {o : Obj} (h : n <= u.heap.size) (_ : Below (u.alloc o).heap.size (u.alloc o) w3) : n <= (u.alloc o).heap.size := by simp; omega
theorem step_below_d {W u w3 : World} {o : Obj} (h : Below W.heap.size W u) (hb : Below (u.alloc o).drew.heap.size (u.alloc o).drew w3) : Below W.heap.size W w3 :=
 step_below h (show Below (u.alloc o).heap.size (u.alloc o) w3 from (below_drewN (u.alloc o) 1).trans hb)
theorem block_after_d {w w3 : World} {cs : Array Value} {T : TypeId} (hb : Below (w.alloc (.cells cs T)).drew.heap.size (w.alloc (.cells cs T)).drew w3) : w3.heap[w.heap.size]? = some (.cells cs T (0, 0)) := by
 rw [hb.block w.heap.size (by simp)]
 exact heap_alloc_new w _
theorem le_alloc_d {n : Nat} {u w3 : World} {o : Obj} (h : n <= u.heap.size) (_ : Below (u.alloc o).drew.heap.size (u.alloc o).drew w3) : n <= (u.alloc o).drew.heap.size := by simp; omega
theorem alloc_trans {w w3 : World} {o : Obj} (hb : Below (w.alloc o).heap.size (w.alloc o) w3) : Below w.heap.size w w3 := ((Below.refl _ w).alloc (Nat.le_refl _) o).trans (hb.mono (by simp))
theorem row2 {w : World} {g : Nat} {x y : Value} {T : TypeId} (h : w.heap[g]? = some (.cells #[x, y] T (0, 0))) : w.cell? ⟨g, 0, none⟩ = some x /\ w.cell? ⟨g, 1, none⟩ = some y /\ w.frozen? ⟨g, 0, none⟩ = false /\ w.frozen? ⟨g, 1, none⟩ = false :=
 ⟨cell_of_row w g 0 _ T _ h, cell_of_row w g 1 _ T _ h, frozen_of_row w g 0 _ T h, frozen_of_row w g 1 _ T h⟩
theorem set_below {W u : World} {g : Nat} {o : Obj} (h : Below W.heap.size W u) (_ : u.heap[g]? = some o) (hs : W.heap.size <= g) (a b : Value) : Below W.heap.size W ((u.setCell ⟨g, 0, none⟩ a).setCell ⟨g, 1, none⟩ b) :=
 (h.setCell (p := ⟨g, 0, none⟩) hs a).setCell (p := ⟨g, 1, none⟩) hs b
theorem row2_set {w : World} {g : Nat} {x y u v : Value} {T : TypeId} (h : w.heap[g]? = some (.cells #[x, y] T (0, 0))) : ((w.setCell ⟨g, 0, none⟩ u).setCell ⟨g, 1, none⟩ v).cell? ⟨g, 0, none⟩ = some u /\ ((w.setCell ⟨g, 0, none⟩ u).setCell ⟨g, 1, none⟩ v).cell? ⟨g, 1, none⟩ = some v := by
 obtain ⟨a, b, c, d⟩ := row2 h
 have B : Box2 w g x y w := ⟨a, b, c, d, (Array.getElem?_eq_some_iff.1 h).1⟩
 exact ⟨B.stored.c0, B.stored.c1⟩
theorem own_type {w : World} {b1 : Nat} {v : Value} {l : List QuadL} {g : Nat} {cs : Array Value} {fr : Nat × Nat} (h : QOwn b1 v l w) (hb : w.heap[g]? = some (.cells cs 24 fr)) : v.ownBlock ≠ some g := by
 intro e
 rcases h.2 with ⟨rfl, _⟩ | ⟨g', cap, cur, rfl, h1, h2, _⟩
 · simp [Value.ownBlock] at e
 · simp [Value.ownBlock] at e
   subst e
   rw [hb] at h2
   simp at h2
theorem compose_fin {w W w13 : World} {g gb : Nat} {a b : List QuadL} {mv pv x y : Value} {cs : Array Value} {fr : Nat × Nat} (hW : Below w.heap.size w W) (hg : w.heap.size <= g) (hgW : g < W.heap.size) (hm : QOwn W.heap.size mv a w13) (hp : QOwn W.heap.size pv b w13) (ap : Apart mv pv)
   (hb : w13.heap[gb]? = some (.cells cs 24 fr)) (hgb : W.heap.size <= gb) (bw : Below W.heap.size W w13) :
   PFresh w.heap.size mv pv ⟨a, b⟩ ((((w13.setCell ⟨gb, 0, none⟩ x).setCell ⟨gb, 1, none⟩ y).setCell ⟨g, 0, none⟩ mv).setCell ⟨g, 1, none⟩ pv) /\ Below w.heap.size w ((((w13.setCell ⟨gb, 0, none⟩ x).setCell ⟨gb, 1, none⟩ y).setCell ⟨g, 0, none⟩ mv).setCell ⟨g, 1, none⟩ pv) := by
 have s0 := hW.size
 refine ⟨⟨(two_set (two_set hm (own_type hm hb)) (fun e => by have := own_base hm _ e; omega)).less s0, (two_set (two_set hp (own_type hp hb)) (fun e => by have := own_base hp _ e; omega)).less s0, ap⟩, ?_⟩
 have h0 : w.heap.size <= gb := by omega
 exact ((((hW.trans (bw.mono s0)).setCell (p := ⟨gb, 0, none⟩) h0 _).setCell (p := ⟨gb, 1, none⟩) h0 _).setCell (p := ⟨g, 0, none⟩) hg _).setCell (p := ⟨g, 1, none⟩) hg _
theorem compose_fin2 {w W w13 : World} {g : Nat} {a b : List QuadL} {mv pv : Value} {o : Obj} (hW : Below w.heap.size w W) (hg : w.heap.size <= g) (hgW : g < W.heap.size) (hm : QOwn W.heap.size mv a w13) (hp : QOwn W.heap.size pv b w13) (ap : Apart mv pv) (bw : Below W.heap.size W w13) :
   PFresh w.heap.size mv pv ⟨a, b⟩ (((w13.alloc o).setCell ⟨g, 0, none⟩ mv).setCell ⟨g, 1, none⟩ pv) /\ Below w.heap.size w (((w13.alloc o).setCell ⟨g, 0, none⟩ mv).setCell ⟨g, 1, none⟩ pv) := by
 have s0 := hW.size
 have ha : Below w13.heap.size w13 (w13.alloc o) := (Below.refl _ _).alloc (Nat.le_refl _) _
 refine ⟨⟨(two_set (hm.below ha) (fun e => by have := own_base hm _ e; omega)).less s0, (two_set (hp.below ha) (fun e => by have := own_base hp _ e; omega)).less s0, ap⟩, ?_⟩
 exact (((hW.trans (bw.mono s0)).alloc (Nat.le_trans s0 bw.size) _).setCell (p := ⟨g, 0, none⟩) hg _).setCell (p := ⟨g, 1, none⟩) hg _
theorem patch_fin3 {w u4 w4 u5 w5 w6 : World} {g : Nat} {a b : List QuadL} {mv pv : Value} (hg : w.heap.size <= g) (hm : QOwn u4.heap.size mv a w4) (hu4 : g < u4.heap.size) (b45 : Below w4.heap.size w4 u5) (hp : QOwn u5.heap.size pv b w5) (b5 : Below u5.heap.size u5 w5) (b56 : Below w5.heap.size w5 w6) (b6 : Below w.heap.size w w6) (hu : w.heap.size <= u4.heap.size) (h4 : u4.heap.size <= w4.heap.size) :
   PFresh w.heap.size mv pv ⟨a, b⟩ ((w6.setCell ⟨g, 0, none⟩ mv).setCell ⟨g, 1, none⟩ pv) /\ Below w.heap.size w ((w6.setCell ⟨g, 0, none⟩ mv).setCell ⟨g, 1, none⟩ pv) := by
 have h45 := b45.size
 have h55 := b5.size
 have m6 : QOwn u4.heap.size mv a w6 := ((hm.below b45).below b5).below b56
 have p6 : QOwn u5.heap.size pv b w6 := hp.below b56
 refine ⟨⟨((m6.set ⟨g, 0, none⟩ mv hu4).set ⟨g, 1, none⟩ pv hu4).less hu, ((p6.set ⟨g, 0, none⟩ mv (by simp only; omega)).set ⟨g, 1, none⟩ pv (by simp only; omega)).less (by omega), hm.apart hp h45⟩, ?_⟩
 exact (b6.setCell (p := ⟨g, 0, none⟩) hg _).setCell (p := ⟨g, 1, none⟩) hg _
end Go.Proofs.YtmnigckpejcaeaaGreatDoor
namespace Go.Proofs.YtmnigckpejcaeaaGreatDoor
open Go.RowKit
set_option maxRecDepth 100000
theorem compareQuads_mU (a b : QuadL) (w : World) : Calls Tryz.prog 61 #[.agg #[.int .i64 a.s.kind, .string (B a.s.text), .string (B a.s.type), .string (B a.s.lang), .int .i64 a.p.kind, .string (B a.p.text), .string (B a.p.type), .string (B a.p.lang), .int .i64 a.o.kind, .string (B a.o.text), .string (B a.o.type), .string (B a.o.lang), .int .i64 a.g.kind, .string (B a.g.text), .string (B a.g.type), .string (B a.g.lang)], .agg #[.int .i64 b.s.kind, .string (B b.s.text), .string (B b.s.type), .string (B b.s.lang), .int .i64 b.p.kind, .string (B b.p.text), .string (B b.p.type), .string (B b.p.lang), .int .i64 b.o.kind, .string (B b.o.text), .string (B b.o.type), .string (B b.o.lang), .int .i64 b.g.kind, .string (B b.g.text), .string (B b.g.type), .string (B b.g.lang)]] w fun e w' => e = .returned (.int .i64 (cmpQ a b)) /\ Below w.heap.size w w' := compareQuads_l a b w
theorem mergeF_nilU (f m s : Bool) : mergeF f m s [] [] = [] := by rw [mergeF]
set_option maxHeartbeats 4000000 in
theorem mergedU_l (as0 bs0 : List QuadL) (v0 v1 : Value) (w : World) (h0 : QView w v0 as0) (h1 : QView w v1 bs0) (n0 : as0.length <= 2097152) (n1 : bs0.length <= 2097152) :
   Calls Tryz.prog 132 #[v0, v1, .func (.func 61) #[] #[], .bool true, .bool true, .bool true] w fun e w' => ∃ v, e = .returned v /\ QOwn w.heap.size v (mergeF true true true as0 bs0) w' /\ Below w.heap.size w w' := by
 have CM := Lib.hid (fun (x y : QuadL) (u : World) => compareQuads_mU x y u)
 obtain ⟨pa, ca, hv0, hca, _⟩ := id h0
 obtain ⟨pb, cb, hv1, hcb, _⟩ := id h1
 subst hv0 hv1
 have HA := Lib.hid h0
 have HBV := Lib.hid h1
 clear h0 h1 hca hcb
 go_enter Tryz.func132, Tryz.ntmps132
 go_wp2_with fail
 go_loopw [0, 1, 13] (fun av bv ov wr => ∃ ls rs done, Hid (QView w av ls) /\ Hid (QView w bv rs) /\ Hid (QOwn w.heap.size ov done wr) /\ Hid (Below w.heap.size w wr) /\ done.length + ls.length + rs.length <= as0.length + bs0.length /\ Hid (ls.length <= 2097152 /\ rs.length <= 2097152) /\ Hid (mergeF true true true as0 bs0 = done ++ mergeF true true true ls rs)) (fun av bv _ _ => lenV av + lenV bv)
 case atStart => exact ⟨as0, bs0, [], HA, HBV, Lib.hid (QOwn.nil _ _), Lib.hid (Below.refl _ _), by simp, Lib.hid ⟨n0, n1⟩, Lib.hid rfl⟩
 case round =>
   obtain ⟨ls, rs, done, HVA, HVB, HO, HB, hlen, HL, HM⟩ := hrel
   clear HA HBV
   obtain ⟨l0, l1⟩ := HL.out
   rcases ls with _ | ⟨x, ls⟩
   · obtain ⟨ra, ca2, hav⟩ := HVA.out.empty
     rcases rs with _ | ⟨y, rs⟩
     · obtain ⟨rb, cb2, hbv⟩ := HVB.out.empty
       have HE : Hid (mergeF true true true as0 bs0 = done) := Lib.hid (by rw [HM.out, mergeF_nilU, List.append_nil])
       clear HVA HVB HM CM HL
       subst hav hbv
       go_wp2_with fail
       go_ret
       exact ⟨_, rfl, by rw [HE.out]; exact HO.out, HB.out⟩
     · have lb : rs.length <= 2097152 := by simp at l1; omega
       have pb1 : (0 : Int) < (rs.length : Int) + 1 := by omega
       have zb1 : ((rs.length : Int) + 1 == 0) = false := beq_eq_false_iff_ne.2 (by omega)
       obtain ⟨b2, o2, k2, hbv, hk2, hr2, HTB⟩ := HVB.out.cons
       have HR2 := Lib.hid hr2
       have HTB := Lib.hid HTB
       clear hr2
       have HN2 : Hid (mergeF true true true as0 bs0 = (done ++ [y]) ++ mergeF true true true [] rs) := Lib.hid (by rw [HM.out, mergeF_r]; simp)
       clear HM
       have T2 := run_tailQ b2 o2 (rs.length + 1) k2 (by omega)
       have HB5 := HB
       have HO5 := HO
       subst hav hbv
       go_wp2_with (first | (refine wpList_load_quad rfl (.tmp 62) rfl b2 o2 rfl y (range_below HR2.out HB5.out) ?_) | (at_builtin; refine wpList_append_quad rfl (.tmp 60) (.tmp 64) rfl w.heap.size _ done rfl _ HO5.out y 56 rfl rfl (by omega) w HB5.out HB5.out.size ?_; intro v6 w6 ho6 hb6; have HO6 := Lib.hid ho6; have HB6 := Lib.hid hb6; clear ho6 hb6))
       go_roundw
       case rel => exact ⟨[], rs, done ++ [y], HVA, HTB, HO6, HB6, by simp at hlen ⊢; omega, Lib.hid ⟨by simp at l0 ⊢ <;> omega, by simp at l1 ⊢ <;> omega⟩, HN2⟩
       case measure =>
         have la2 : lenV (tailQ b2 o2 (rs.length + 1) k2) = rs.length := HTB.out.len
         simp only [la2]
         simp [lenV]
         try omega
   · rcases rs with _ | ⟨y, rs⟩
     · obtain ⟨rb, cb2, hbv⟩ := HVB.out.empty
       have la : ls.length <= 2097152 := by simp at l0; omega
       have pa1 : (0 : Int) < (ls.length : Int) + 1 := by omega
       have za1 : ((ls.length : Int) + 1 == 0) = false := beq_eq_false_iff_ne.2 (by omega)
       obtain ⟨b1, o1, k1, hav, hk1, hr1, HTA⟩ := HVA.out.cons
       have HR1 := Lib.hid hr1
       have HTA := Lib.hid HTA
       clear hr1
       have HN2 : Hid (mergeF true true true as0 bs0 = (done ++ [x]) ++ mergeF true true true ls []) := Lib.hid (by rw [HM.out, mergeF_l]; simp)
       clear HM
       have T1 := run_tailQ b1 o1 (ls.length + 1) k1 (by omega)
       have HB5 := HB
       have HO5 := HO
       subst hav hbv
       go_wp2_with (first | (refine wpList_load_quad rfl (.tmp 51) rfl b1 o1 rfl x (range_below HR1.out HB5.out) ?_) | (at_builtin; refine wpList_append_quad rfl (.tmp 49) (.tmp 53) rfl w.heap.size _ done rfl _ HO5.out x 56 rfl rfl (by omega) w HB5.out HB5.out.size ?_; intro v6 w6 ho6 hb6; have HO6 := Lib.hid ho6; have HB6 := Lib.hid hb6; clear ho6 hb6))
       go_roundw
       case rel => exact ⟨ls, [], done ++ [x], HTA, HVB, HO6, HB6, by simp at hlen ⊢; omega, Lib.hid ⟨by simp at l0 ⊢ <;> omega, by simp at l1 ⊢ <;> omega⟩, HN2⟩
       case measure =>
         have la1 : lenV (tailQ b1 o1 (ls.length + 1) k1) = ls.length := HTA.out.len
         simp only [la1]
         simp [lenV]
         try omega
     · have la : ls.length <= 2097152 := by simp at l0; omega
       have pa1 : (0 : Int) < (ls.length : Int) + 1 := by omega
       have za1 : ((ls.length : Int) + 1 == 0) = false := beq_eq_false_iff_ne.2 (by omega)
       obtain ⟨b1, o1, k1, hav, hk1, hr1, HTA⟩ := HVA.out.cons
       have HR1 := Lib.hid hr1
       have HTA := Lib.hid HTA
       clear hr1
       have lb : rs.length <= 2097152 := by simp at l1; omega
       have pb1 : (0 : Int) < (rs.length : Int) + 1 := by omega
       have zb1 : ((rs.length : Int) + 1 == 0) = false := beq_eq_false_iff_ne.2 (by omega)
       obtain ⟨b2, o2, k2, hbv, hk2, hr2, HTB⟩ := HVB.out.cons
       have HR2 := Lib.hid hr2
       have HTB := Lib.hid HTB
       clear hr2
       have pab : (0 : Int) < (ls.length : Int) + 1 + ((rs.length : Int) + 1) := by omega
       obtain ⟨n, hn⟩ : ∃ n, cmpQ x y = n := ⟨_, rfl⟩
       have h3 := cmpQ_three x y
       rw [hn] at h3
       have CX := CM.out x y
       rw [hn] at CX
       have HN := Lib.hid hn
       have CM := Lib.hid CX
       clear CX hn
       rcases h3 with rfl | rfl | rfl
       · have HN2 : Hid (mergeF true true true as0 bs0 = (done ++ [x]) ++ mergeF true true true ls (y :: rs)) := Lib.hid (by rw [HM.out, mergeF_lt (by rw [HN.out]; decide)]; simp)
         clear HM
         have T1 := run_tailQ b1 o1 (ls.length + 1) k1 (by omega)
         subst hav hbv
         have RD1 : Hid (wr.drew.rangeAt b1 o1 (quadC x)) := Lib.hid (show wr.rangeAt b1 o1 (quadC x) from range_below HR1.out HB.out)
         have RD2 : Hid (wr.drew.rangeAt b2 o2 (quadC y)) := Lib.hid (show wr.rangeAt b2 o2 (quadC y) from range_below HR2.out HB.out)
         go_wp2_with fail
         refine region_still 7 (by kernel_rfl) (by kernel_rfl) ?_
         simp only [List.take_succ_cons, List.take_zero, List.drop_succ_cons, List.drop_zero]
         repeat (first | refine still_load_quad rfl (.tmp 31) rfl b1 o1 rfl x RD1.out ?_ | refine still_load_quad rfl (.tmp 34) rfl b2 o2 rfl y RD2.out ?_ | still_step)
         refine wpStill_nil ?_
         go_wp2_with (first | (go_at_call 61; (with_reducible refine (CM.out _).mono ?_); rintro e w3 ⟨rfl, hb3⟩; have HB5 := Lib.hid (HB.out.trans (((below_drewN _ 1).trans hb3).mono HB.out.size)); have HO5 := Lib.hid (HO.out.below ((below_drewN _ 1).trans hb3)); clear hb3) | (refine wpList_load_quad rfl (.tmp 51) rfl b1 o1 rfl x (range_below HR1.out HB5.out) ?_) | (at_builtin; refine wpList_append_quad rfl (.tmp 49) (.tmp 53) rfl w.heap.size _ done rfl _ HO5.out x 56 rfl rfl (by omega) w HB5.out HB5.out.size ?_; intro v6 w6 ho6 hb6; have HO6 := Lib.hid ho6; have HB6 := Lib.hid hb6; clear ho6 hb6))
         go_roundw
         case rel => exact ⟨ls, (y :: rs), done ++ [x], HTA, HVB, HO6, HB6, by simp at hlen ⊢; omega, Lib.hid ⟨by simp at l0 ⊢ <;> omega, by simp at l1 ⊢ <;> omega⟩, HN2⟩
         case measure =>
           have la1 : lenV (tailQ b1 o1 (ls.length + 1) k1) = ls.length := HTA.out.len
           simp only [la1]
           simp [lenV]
           try omega
       · have HN2 : Hid (mergeF true true true as0 bs0 = (done ++ [x]) ++ mergeF true true true ls rs) := Lib.hid (by rw [HM.out, mergeF_eq HN.out]; simp)
         clear HM
         have T1 := run_tailQ b1 o1 (ls.length + 1) k1 (by omega)
         have T2 := run_tailQ b2 o2 (rs.length + 1) k2 (by omega)
         subst hav hbv
         have RD1 : Hid (wr.drew.rangeAt b1 o1 (quadC x)) := Lib.hid (show wr.rangeAt b1 o1 (quadC x) from range_below HR1.out HB.out)
         have RD2 : Hid (wr.drew.rangeAt b2 o2 (quadC y)) := Lib.hid (show wr.rangeAt b2 o2 (quadC y) from range_below HR2.out HB.out)
         go_wp2_with fail
         refine region_still 7 (by kernel_rfl) (by kernel_rfl) ?_
         simp only [List.take_succ_cons, List.take_zero, List.drop_succ_cons, List.drop_zero]
         repeat (first | refine still_load_quad rfl (.tmp 31) rfl b1 o1 rfl x RD1.out ?_ | refine still_load_quad rfl (.tmp 34) rfl b2 o2 rfl y RD2.out ?_ | still_step)
         refine wpStill_nil ?_
         go_wp2_with (first | (go_at_call 61; (with_reducible refine (CM.out _).mono ?_); rintro e w3 ⟨rfl, hb3⟩; have HB5 := Lib.hid (HB.out.trans (((below_drewN _ 1).trans hb3).mono HB.out.size)); have HO5 := Lib.hid (HO.out.below ((below_drewN _ 1).trans hb3)); clear hb3) | (refine wpList_load_quad rfl (.tmp 51) rfl b1 o1 rfl x (range_below HR1.out HB5.out) ?_) | (at_builtin; refine wpList_append_quad rfl (.tmp 49) (.tmp 53) rfl w.heap.size _ done rfl _ HO5.out x 56 rfl rfl (by omega) w HB5.out HB5.out.size ?_; intro v6 w6 ho6 hb6; have HO6 := Lib.hid ho6; have HB6 := Lib.hid hb6; clear ho6 hb6))
         go_roundw
         case rel => exact ⟨ls, rs, done ++ [x], HTA, HTB, HO6, HB6, by simp at hlen ⊢; omega, Lib.hid ⟨by simp at l0 ⊢ <;> omega, by simp at l1 ⊢ <;> omega⟩, HN2⟩
         case measure =>
           have la1 : lenV (tailQ b1 o1 (ls.length + 1) k1) = ls.length := HTA.out.len
           have la2 : lenV (tailQ b2 o2 (rs.length + 1) k2) = rs.length := HTB.out.len
           simp only [la1, la2]
           simp [lenV]
           try omega
       · have HN2 : Hid (mergeF true true true as0 bs0 = (done ++ [y]) ++ mergeF true true true (x :: ls) rs) := Lib.hid (by rw [HM.out, mergeF_gt (by rw [HN.out]; decide)]; simp)
         clear HM
         have T2 := run_tailQ b2 o2 (rs.length + 1) k2 (by omega)
         subst hav hbv
         have RD1 : Hid (wr.drew.rangeAt b1 o1 (quadC x)) := Lib.hid (show wr.rangeAt b1 o1 (quadC x) from range_below HR1.out HB.out)
         have RD2 : Hid (wr.drew.rangeAt b2 o2 (quadC y)) := Lib.hid (show wr.rangeAt b2 o2 (quadC y) from range_below HR2.out HB.out)
         go_wp2_with fail
         refine region_still 7 (by kernel_rfl) (by kernel_rfl) ?_
         simp only [List.take_succ_cons, List.take_zero, List.drop_succ_cons, List.drop_zero]
         repeat (first | refine still_load_quad rfl (.tmp 31) rfl b1 o1 rfl x RD1.out ?_ | refine still_load_quad rfl (.tmp 34) rfl b2 o2 rfl y RD2.out ?_ | still_step)
         refine wpStill_nil ?_
         go_wp2_with (first | (go_at_call 61; (with_reducible refine (CM.out _).mono ?_); rintro e w3 ⟨rfl, hb3⟩; have HB5 := Lib.hid (HB.out.trans (((below_drewN _ 1).trans hb3).mono HB.out.size)); have HO5 := Lib.hid (HO.out.below ((below_drewN _ 1).trans hb3)); clear hb3) | (refine wpList_load_quad rfl (.tmp 62) rfl b2 o2 rfl y (range_below HR2.out HB5.out) ?_) | (at_builtin; refine wpList_append_quad rfl (.tmp 60) (.tmp 64) rfl w.heap.size _ done rfl _ HO5.out y 56 rfl rfl (by omega) w HB5.out HB5.out.size ?_; intro v6 w6 ho6 hb6; have HO6 := Lib.hid ho6; have HB6 := Lib.hid hb6; clear ho6 hb6))
         go_roundw
         case rel => exact ⟨(x :: ls), rs, done ++ [y], HVA, HTB, HO6, HB6, by simp at hlen ⊢; omega, Lib.hid ⟨by simp at l0 ⊢ <;> omega, by simp at l1 ⊢ <;> omega⟩, HN2⟩
         case measure =>
           have la2 : lenV (tailQ b2 o2 (rs.length + 1) k2) = rs.length := HTB.out.len
           simp only [la2]
           simp [lenV]
           try omega
end Go.Proofs.YtmnigckpejcaeaaGreatDoor
namespace Go.Proofs.YtmnigckpejcaeaaGreatDoor
open Go.RowKit
set_option maxRecDepth 100000
theorem mergeOK_u : MergeOK true true true := fun a b v0 v1 w h0 h1 n0 n1 => mergedU_l a b v0 v1 w h0 h1 n0 n1
theorem mergeOK_m : MergeOK false true false := fun a b v0 v1 w h0 h1 n0 n1 => mergedM_l a b v0 v1 w h0 h1 n0 n1
theorem mergeOK_d : MergeOK true false false := fun a b v0 v1 w h0 h1 n0 n1 => mergedD_l a b v0 v1 w h0 h1 n0 n1
theorem term_union_l (a b : List QuadL) (v0 v1 : Value) (w : World) (h0 : QView w v0 a) (h1 : QView w v1 b) (n0 : a.length <= 2097152) (n1 : b.length <= 2097152) :
   Calls Tryz.prog 99 #[v0, v1] w fun e w' => ∃ v, e = .returned (.tuple #[v, .int .i64 (twoE a b)]) /\ QOwn w.heap.size v (unionS a b) w' /\ Below w.heap.size w w' := by
 have R := Lib.hid (two_l true true true mergeOK_u a b v0 v1 w h0 h1 n0 n1)
 have HE : Hid (twoS true true true a b = unionS a b) := Lib.hid rfl
 clear h0 h1
 go_enter Tryz.func99, Tryz.ntmps99
 go_wp2_with (go_at_call 101; (with_reducible refine R.out.mono ?_); rintro e w3 ⟨v, rfl, ho, hb⟩; have HX := Lib.hid (And.intro ho hb); clear ho hb)
 go_ret2
 exact ⟨v, rfl, by rw [<- HE.out]; exact HX.out.1, HX.out.2⟩
theorem of_union_l (a b : List QuadL) (v0 v1 : Value) (g : Nat) (w : World) (hg : w.cell? ⟨g, 0, none⟩ = some (.func (.func 99) #[] #[])) (h0 : QView w v0 a) (h1 : QView w v1 b) (n0 : a.length <= 2097152) (n1 : b.length <= 2097152) :
   Calls Tryz.prog 100 #[v0, v1, .pointer (some ⟨g, 0, none⟩)] w fun e w' => ∃ v, e = .returned v /\ QOwn w.heap.size v (unionS a b) w' /\ Below w.heap.size w w' := by
 have R := Lib.hid (term_union_l a b v0 v1 w h0 h1 n0 n1)
 clear h0 h1
 go_enter Tryz.func100, Tryz.ntmps100
 go_wp2_with (go_at_call 99; (with_reducible refine R.out.mono ?_); rintro e w3 ⟨v, rfl, ho, hb⟩; have HX := Lib.hid (And.intro ho hb); clear ho hb)
 go_ret
 exact ⟨v, rfl, HX.out.1, HX.out.2⟩
theorem term_meet_l (a b : List QuadL) (v0 v1 : Value) (w : World) (h0 : QView w v0 a) (h1 : QView w v1 b) (n0 : a.length <= 2097152) (n1 : b.length <= 2097152) :
   Calls Tryz.prog 69 #[v0, v1] w fun e w' => ∃ v, e = .returned (.tuple #[v, .int .i64 (twoE a b)]) /\ QOwn w.heap.size v (meetS a b) w' /\ Below w.heap.size w w' := by
 have R := Lib.hid (two_l false true false mergeOK_m a b v0 v1 w h0 h1 n0 n1)
 have HE : Hid (twoS false true false a b = meetS a b) := Lib.hid rfl
 clear h0 h1
 go_enter Tryz.func69, Tryz.ntmps69
 go_wp2_with (go_at_call 101; (with_reducible refine R.out.mono ?_); rintro e w3 ⟨v, rfl, ho, hb⟩; have HX := Lib.hid (And.intro ho hb); clear ho hb)
 go_ret2
 exact ⟨v, rfl, by rw [<- HE.out]; exact HX.out.1, HX.out.2⟩
theorem of_meet_l (a b : List QuadL) (v0 v1 : Value) (g : Nat) (w : World) (hg : w.cell? ⟨g, 0, none⟩ = some (.func (.func 69) #[] #[])) (h0 : QView w v0 a) (h1 : QView w v1 b) (n0 : a.length <= 2097152) (n1 : b.length <= 2097152) :
   Calls Tryz.prog 100 #[v0, v1, .pointer (some ⟨g, 0, none⟩)] w fun e w' => ∃ v, e = .returned v /\ QOwn w.heap.size v (meetS a b) w' /\ Below w.heap.size w w' := by
 have R := Lib.hid (term_meet_l a b v0 v1 w h0 h1 n0 n1)
 clear h0 h1
 go_enter Tryz.func100, Tryz.ntmps100
 go_wp2_with (go_at_call 69; (with_reducible refine R.out.mono ?_); rintro e w3 ⟨v, rfl, ho, hb⟩; have HX := Lib.hid (And.intro ho hb); clear ho hb)
 go_ret
 exact ⟨v, rfl, HX.out.1, HX.out.2⟩
theorem term_minus_l (a b : List QuadL) (v0 v1 : Value) (w : World) (h0 : QView w v0 a) (h1 : QView w v1 b) (n0 : a.length <= 2097152) (n1 : b.length <= 2097152) :
   Calls Tryz.prog 68 #[v0, v1] w fun e w' => ∃ v, e = .returned (.tuple #[v, .int .i64 (twoE a b)]) /\ QOwn w.heap.size v (minusS a b) w' /\ Below w.heap.size w w' := by
 have R := Lib.hid (two_l true false false mergeOK_d a b v0 v1 w h0 h1 n0 n1)
 have HE : Hid (twoS true false false a b = minusS a b) := Lib.hid rfl
 clear h0 h1
 go_enter Tryz.func68, Tryz.ntmps68
 go_wp2_with (go_at_call 101; (with_reducible refine R.out.mono ?_); rintro e w3 ⟨v, rfl, ho, hb⟩; have HX := Lib.hid (And.intro ho hb); clear ho hb)
 go_ret2
 exact ⟨v, rfl, by rw [<- HE.out]; exact HX.out.1, HX.out.2⟩
theorem of_minus_l (a b : List QuadL) (v0 v1 : Value) (g : Nat) (w : World) (hg : w.cell? ⟨g, 0, none⟩ = some (.func (.func 68) #[] #[])) (h0 : QView w v0 a) (h1 : QView w v1 b) (n0 : a.length <= 2097152) (n1 : b.length <= 2097152) :
   Calls Tryz.prog 100 #[v0, v1, .pointer (some ⟨g, 0, none⟩)] w fun e w' => ∃ v, e = .returned v /\ QOwn w.heap.size v (minusS a b) w' /\ Below w.heap.size w w' := by
 have R := Lib.hid (term_minus_l a b v0 v1 w h0 h1 n0 n1)
 clear h0 h1
 go_enter Tryz.func100, Tryz.ntmps100
 go_wp2_with (go_at_call 68; (with_reducible refine R.out.mono ?_); rintro e w3 ⟨v, rfl, ho, hb⟩; have HX := Lib.hid (And.intro ho hb); clear ho hb)
 go_ret
 exact ⟨v, rfl, HX.out.1, HX.out.2⟩
theorem of_l (f : Nat) (w : World) : Calls Tryz.prog 67 #[.func (.func f) #[] #[]] w fun e w' => e = .returned (.func (.func 100) #[] #[.pointer (some ⟨w.heap.size, 0, none⟩)]) /\ ∃ T, w' = w.alloc (.cells #[.func (.func f) #[] #[]] T) := by
 go_enter Tryz.func67, Tryz.ntmps67
 go_wp2_with fail
 go_ret
 exact ⟨rfl, _, rfl⟩
theorem patch_union_l (a b : List QuadL) (v0 v1 : Value) (w : World) (h0 : QView w v0 a) (h1 : QView w v1 b) (n0 : a.length <= 2097152) (n1 : b.length <= 2097152) :
   Calls Tryz.prog 66 #[v0, v1] w fun e w' => ∃ v, e = .returned v /\ QOwn w.heap.size v (unionS a b) w' /\ Below w.heap.size w w' := by
 have R := Lib.hid (fun (T : TypeId) => of_union_l a b v0 v1 w.heap.size (w.alloc (.cells #[.func (.func 99) #[] #[]] T)) (by rw [World.cell?_alloc_new]; rfl) (h0.below ((Below.refl _ _).alloc (Nat.le_refl _) _)) (h1.below ((Below.refl _ _).alloc (Nat.le_refl _) _)) n0 n1)
 have O := Lib.hid (of_l 99 w)
 clear h0 h1
 go_enter Tryz.func66, Tryz.ntmps66
 go_wp2_with (first | (go_at_call 67; (with_reducible refine O.out.mono ?_); rintro e w2 ⟨rfl, T, rfl⟩) | (go_at_call 100; (with_reducible refine (R.out _).mono ?_); rintro e w3 ⟨v, rfl, ho, hb⟩; have HX := Lib.hid (And.intro ho hb); clear ho hb))
 go_ret
 exact ⟨v, rfl, HX.out.1.less (by simp), ((Below.refl _ _).alloc (Nat.le_refl _) _).trans (HX.out.2.mono (by simp))⟩
theorem patch_minus_l (a b : List QuadL) (v0 v1 : Value) (w : World) (h0 : QView w v0 a) (h1 : QView w v1 b) (n0 : a.length <= 2097152) (n1 : b.length <= 2097152) :
   Calls Tryz.prog 38 #[v0, v1] w fun e w' => ∃ v, e = .returned v /\ QOwn w.heap.size v (minusS a b) w' /\ Below w.heap.size w w' := by
 have R := Lib.hid (fun (T : TypeId) => of_minus_l a b v0 v1 w.heap.size (w.alloc (.cells #[.func (.func 68) #[] #[]] T)) (by rw [World.cell?_alloc_new]; rfl) (h0.below ((Below.refl _ _).alloc (Nat.le_refl _) _)) (h1.below ((Below.refl _ _).alloc (Nat.le_refl _) _)) n0 n1)
 have O := Lib.hid (of_l 68 w)
 clear h0 h1
 go_enter Tryz.func38, Tryz.ntmps38
 go_wp2_with (first | (go_at_call 67; (with_reducible refine O.out.mono ?_); rintro e w2 ⟨rfl, T, rfl⟩) | (go_at_call 100; (with_reducible refine (R.out _).mono ?_); rintro e w3 ⟨v, rfl, ho, hb⟩; have HX := Lib.hid (And.intro ho hb); clear ho hb))
 go_ret
 exact ⟨v, rfl, HX.out.1.less (by simp), ((Below.refl _ _).alloc (Nat.le_refl _) _).trans (HX.out.2.mono (by simp))⟩
theorem patch_meet_l (a b : List QuadL) (v0 v1 : Value) (w : World) (h0 : QView w v0 a) (h1 : QView w v1 b) (n0 : a.length <= 2097152) (n1 : b.length <= 2097152) :
   Calls Tryz.prog 42 #[v0, v1] w fun e w' => e = .returned (.bool (decide (0 < (meetS a b).length))) /\ Below w.heap.size w w' := by
 have R := Lib.hid (fun (T : TypeId) => of_meet_l a b v0 v1 w.heap.size (w.alloc (.cells #[.func (.func 69) #[] #[]] T)) (by rw [World.cell?_alloc_new]; rfl) (h0.below ((Below.refl _ _).alloc (Nat.le_refl _) _)) (h1.below ((Below.refl _ _).alloc (Nat.le_refl _) _)) n0 n1)
 have O := Lib.hid (of_l 69 w)
 clear h0 h1
 go_enter Tryz.func42, Tryz.ntmps42
 go_wp2_with (first | (go_at_call 67; (with_reducible refine O.out.mono ?_); rintro e w2 ⟨rfl, T, rfl⟩) | (go_at_call 100; (with_reducible refine (R.out _).mono ?_); rintro e w3 ⟨v, rfl, ho, hb⟩; obtain ⟨pa, ca, rfl, hca, _⟩ := ho.view; have HX := Lib.hid hb; clear ho hb))
 go_ret
 exact ⟨ret_bool (by simp), ((Below.refl _ _).alloc (Nat.le_refl _) _).trans (HX.out.mono (by simp))⟩
theorem set_ok : SetOK := ⟨patch_union_l, patch_minus_l, patch_meet_l⟩
end Go.Proofs.YtmnigckpejcaeaaGreatDoor
