/-
  term.Rises, term.two, term.Union, term.Meet, term.Minus: contracts. By an AI agent.
-/
import Derived.Test.YtdegonmkikfghaaGreatDoorZApp
import Derived.Test.YtdegonmkikfghaaGreatDoorZCmp
import Derived.IntWalk
import Derived.Test.YtdegonmkikfghaaGreatDoorZPatch0
import Derived.Test.YtdegonmkikfghaaGreatDoorZStill
import Derived.Test.YtdegonmkikfghaaGreatDoorZValid
import Derived.Test.YtdegonmkikfghaaGreatDoorZKeep
import Derived.Test.YtdegonmkikfghaaGreatDoorZLoadQ
import Derived.Deep.QuietTactic
import Derived.BigQuiet
import Derived.Deep.RegionHeld3
import Derived.Test.YtdegonmkikfghaaGreatDoorZTerm0
import Derived.Laws.Cover1
import Derived.Test.YtdegonmkikfghaaGreatDoorZQuad0
import Derived.WalkLawsBesides
import Derived.Test.YtdegonmkikfghaaGreatDoorZTermD
import Derived.Deep.Cut
namespace Go.Proofs.YtdegonmkikfghaaGreatDoor
open Go.RowKit
set_option maxRecDepth 100000
theorem QOwn.less {b1 b2 : Nat} {v : Value} {l : List QuadL} {w : World} (h : QOwn b2 v l w) (hb : b1 <= b2) : QOwn b1 v l w := by
 refine ⟨h.1, ?_⟩
 rcases h.2 with hn | ⟨g, cap, cur, rfl, h1, rest⟩
 · exact .inl hn
 · exact .inr ⟨g, cap, cur, rfl, by omega, rest⟩
theorem compareQuads_s (a b : QuadL) (w : World) : Calls Tryz.prog 50 #[.agg #[.int .i64 a.s.kind, .string (B a.s.text), .string (B a.s.type), .string (B a.s.lang), .int .i64 a.p.kind, .string (B a.p.text), .string (B a.p.type), .string (B a.p.lang), .int .i64 a.o.kind, .string (B a.o.text), .string (B a.o.type), .string (B a.o.lang), .int .i64 a.g.kind, .string (B a.g.text), .string (B a.g.type), .string (B a.g.lang)], .agg #[.int .i64 b.s.kind, .string (B b.s.text), .string (B b.s.type), .string (B b.s.lang), .int .i64 b.p.kind, .string (B b.p.text), .string (B b.p.type), .string (B b.p.lang), .int .i64 b.o.kind, .string (B b.o.text), .string (B b.o.type), .string (B b.o.lang), .int .i64 b.g.kind, .string (B b.g.text), .string (B b.g.type), .string (B b.g.lang)]] w fun e w' => e = .returned (.int .i64 (cmpQ a b)) /\ Below w.heap.size w w' := compareQuads_l a b w
theorem riseB_step {l : List QuadL} {m : Nat} (h : m + 1 < l.length) : riseB (l.drop m) = (decide (cmpQ (l[m]'(by omega)) l[m + 1] < 0) && riseB (l.drop (m + 1))) := by
 have e : l.drop m = l[m]'(by omega) :: l[m + 1] :: l.drop (m + 2) := by
   rw [List.drop_eq_getElem_cons (by omega), List.drop_eq_getElem_cons h]
 rw [e, riseB, List.drop_eq_getElem_cons h]
theorem riseB_end {l : List QuadL} {m : Nat} (h : l.length <= m + 1) : riseB (l.drop m) = true := by
 have : (l.drop m).length <= 1 := by simp; omega
 match hd : l.drop m, this with
 | [], _ => rfl
 | [_], _ => rfl
 | _ :: _ :: _, h => simp at h
set_option maxHeartbeats 2000000 in
theorem rises_l (l : List QuadL) (v : Value) (w : World) (hV : QView w v l) (hl : l.length <= 4194304) :
   Calls Tryz.prog 122 #[v, .func (.func 50) #[] #[]] w fun e w' => e = .returned (.bool (riseB l)) /\ Below w.heap.size w w' := by
 obtain ⟨a, c, rfl, _, hQ⟩ := hV
 have HQ := Lib.hid hQ
 have CM0 := Lib.hid (fun (x y : QuadL) (u : World) => compareQuads_s x y u)
 clear hQ
 go_enter Tryz.func122, Tryz.ntmps122
 go_wp2_with fail
 go_loopw [5] (fun i wr => ∃ m : Nat, i = .int .i64 (m + 1) /\ m <= l.length /\ Below w.heap.size w wr /\ Hid (riseB l = riseB (l.drop m))) (fun i _ => l.length + 1 - (intOf i).toNat)
 case atStart => exact ⟨0, rfl, Nat.zero_le _, Below.refl _ _, Lib.hid rfl⟩
 case round =>
   obtain ⟨m, rfl, hm, hb, HK⟩ := hrel
   by_cases hlt2 : m + 1 < l.length
   · obtain ⟨b, o, rfl⟩ := HQ.out.place (by omega)
     have hQ2 := HQ.out.below hb
     have r1 := hQ2.get (k := m) (by omega)
     have r2 := hQ2.get (k := m + 1) hlt2
     obtain ⟨x, hx⟩ : ∃ x, l[m] = x := ⟨_, rfl⟩
     obtain ⟨y, hy⟩ : ∃ y, l[m + 1] = y := ⟨_, rfl⟩
     have HS2 := riseB_step hlt2
     rw [hx, hy] at HS2
     have HK2 := Lib.hid (HK.out.trans HS2)
     rw [hx] at r1
     rw [hy] at r2
     obtain ⟨c0, c1, c2, c3, c4, c5, c6, c7, c8, c9, c10, c11, c12, c13, c14, c15⟩ := cells16 r1
     obtain ⟨d0, d1, d2, d3, d4, d5, d6, d7, d8, d9, d10, d11, d12, d13, d14, d15⟩ := cells16 r2
     have BB := Lib.hid hb
     clear hb hQ2 r1 r2 hx hy HS2 HK
     obtain ⟨n, hn⟩ : ∃ n, cmpQ x y = n := ⟨_, rfl⟩
     have CX := CM0.out x y
     rw [hn] at CX HK2
     have CM := Lib.hid CX
     clear CX hn
     by_cases n0 : 0 <= n
     · as_aux_lemma =>
       have q9 : decide (0 <= n) = true := decide_eq_true n0
       have HE : Hid (riseB l = false) := Lib.hid (by rw [HK2.out, decide_eq_false (by omega)]; rfl)
       clear n0 HK2
       go_wp2_with fail
       have hm2 : m < l.length := by omega
       have hm3 : (0 : Int) <= (m : Int) + 1 := by omega
       have W1 : IntKind.i64.wrap (m : Int) = (m : Int) := IntWalk.i64_in _ (by omega)
       refine region_still 10 (by kernel_rfl) (by kernel_rfl) ?_
       simp only [List.take_succ_cons, List.take_zero, List.drop_succ_cons, List.drop_zero]
       repeat still_step
       refine wpStill_nil ?_
       clear W1
       go_wp2_with (go_at_call 50; (with_reducible refine (CM.out _).mono ?_); rintro e w3 ⟨rfl, hb3⟩; have HB3 := Lib.hid (BB.out.trans (((below_drewN _ 1).trans hb3).mono BB.out.size)); clear hb3)
       go_ret
       exact ⟨ret_bool HE.out.symm, HB3.out⟩
     · as_aux_lemma =>
       have q9 : decide (0 <= n) = false := decide_eq_false n0
       have HN : Hid (riseB l = riseB (l.drop (m + 1))) := Lib.hid (by rw [HK2.out, decide_eq_true (by omega)]; rfl)
       clear n0 HK2
       go_wp2_with fail
       have hm2 : m < l.length := by omega
       have hm3 : (0 : Int) <= (m : Int) + 1 := by omega
       have W1 : IntKind.i64.wrap (m : Int) = (m : Int) := IntWalk.i64_in _ (by omega)
       refine region_still 10 (by kernel_rfl) (by kernel_rfl) ?_
       simp only [List.take_succ_cons, List.take_zero, List.drop_succ_cons, List.drop_zero]
       repeat still_step
       refine wpStill_nil ?_
       clear W1
       go_wp2_with (go_at_call 50; (with_reducible refine (CM.out _).mono ?_); rintro e w3 ⟨rfl, hb3⟩; have HB3 := Lib.hid (BB.out.trans (((below_drewN _ 1).trans hb3).mono BB.out.size)); clear hb3)
       go_roundw
       case rel => exact ⟨m + 1, by go_num, by omega, HB3.out, HN⟩
       case measure => simp [intOf]; omega
   · as_aux_lemma =>
     have HE : Hid (riseB l = true) := Lib.hid (by rw [HK.out, riseB_end (by omega)])
     have q8 : decide ((m : Int) + 1 < (l.length : Int)) = false := decide_eq_false (by omega)
     have BB := Lib.hid hb
     clear hb HK CM0
     go_wp2_with fail
     go_ret
     exact ⟨ret_bool HE.out.symm, BB.out⟩
theorem risesQ_l (l : List QuadL) (v : Value) (w : World) (hV : QView w v l) (hl : l.length <= 4194304) :
   Calls Tryz.prog 82 #[v] w fun e w' => e = .returned (.bool (riseB l)) /\ Below w.heap.size w w' := by
 have R := Lib.hid (rises_l l v w hV hl)
 clear hV
 go_enter Tryz.func82, Tryz.ntmps82
 go_wp2_with (go_at_call 122; (with_reducible refine R.out.mono ?_); rintro e w3 ⟨rfl, hb3⟩)
 go_ret
 exact ⟨rfl, hb3⟩
def MergeOK (f m s : Bool) : Prop := ∀ (a b : List QuadL) (v0 v1 : Value) (w : World), QView w v0 a -> QView w v1 b -> a.length <= 2097152 -> b.length <= 2097152 ->
   Calls Tryz.prog 83 #[v0, v1, .func (.func 50) #[] #[], .bool f, .bool m, .bool s] w fun e w' => ∃ v, e = .returned v /\ QOwn w.heap.size v (mergeF f m s a b) w' /\ Below w.heap.size w w'
def twoS (f m s : Bool) (a b : List QuadL) : List QuadL := if riseB a && riseB b then mergeF f m s a b else []
def twoE (a b : List QuadL) : Int := if riseB a && riseB b then 0 else 6
set_option maxHeartbeats 1000000 in
theorem two_l (f m s : Bool) (hm : MergeOK f m s) (a b : List QuadL) (v0 v1 : Value) (w : World) (h0 : QView w v0 a) (h1 : QView w v1 b) (n0 : a.length <= 2097152) (n1 : b.length <= 2097152) :
   Calls Tryz.prog 54 #[v0, v1, .bool f, .bool m, .bool s] w fun e w' => ∃ v, e = .returned (.tuple #[v, .int .i64 (twoE a b)]) /\ QOwn w.heap.size v (twoS f m s a b) w' /\ Below w.heap.size w w' := by
 have R0 := Lib.hid (risesQ_l a v0 w h0 (by omega))
 have R1 := Lib.hid (fun (u : World) (hb : Below w.heap.size w u) => risesQ_l b v1 u (h1.below hb) (by omega))
 have MG := Lib.hid (fun (u : World) (hb : Below w.heap.size w u) => hm a b v0 v1 u (h0.below hb) (h1.below hb) n0 n1)
 clear h0 h1 hm
 cases ha : riseB a with
 | false =>
   rw [ha] at R0
   have HE : Hid (twoE a b = 6 /\ twoS f m s a b = []) := Lib.hid (by unfold twoE twoS; rw [ha]; exact ⟨rfl, rfl⟩)
   clear ha
   go_enter Tryz.func54, Tryz.ntmps54
   go_wp2_with (go_at_call 82; (with_reducible refine R0.out.mono ?_); rintro e w3 ⟨rfl, hb3⟩)
   go_ret2
   exact ⟨.slice none 0 0, by rw [HE.out.1]; rfl, by rw [HE.out.2]; exact QOwn.nil _ _, hb3⟩
 | true =>
   rw [ha] at R0
   cases hb : riseB b with
   | false =>
     rw [hb] at R1
     have HE : Hid (twoE a b = 6 /\ twoS f m s a b = []) := Lib.hid (by unfold twoE twoS; rw [ha, hb]; exact ⟨rfl, rfl⟩)
     clear ha hb
     go_enter Tryz.func54, Tryz.ntmps54
     go_wp2_with (first | (go_at_call 82; (with_reducible refine R0.out.mono ?_); rintro e w3 ⟨rfl, hb3⟩; clear R0) | (go_at_call 82; (with_reducible refine (R1.out _ hb3).mono ?_); rintro e w4 ⟨rfl, hb4⟩; clear R1))
     go_ret2
     exact ⟨.slice none 0 0, by rw [HE.out.1]; rfl, by rw [HE.out.2]; exact QOwn.nil _ _, hb3.trans (hb4.mono hb3.size)⟩
   | true =>
     rw [hb] at R1
     have HE : Hid (twoE a b = 0 /\ twoS f m s a b = mergeF f m s a b) := Lib.hid (by unfold twoE twoS; rw [ha, hb]; exact ⟨rfl, rfl⟩)
     clear ha hb
     go_enter Tryz.func54, Tryz.ntmps54
     go_wp2_with (first | (go_at_call 82; (with_reducible refine R0.out.mono ?_); rintro e w3 ⟨rfl, hb3⟩; clear R0) | (go_at_call 82; (with_reducible refine (R1.out _ hb3).mono ?_); rintro e w4 ⟨rfl, hb4⟩; clear R1) | (go_at_call 83; (with_reducible refine (MG.out _ (hb3.trans (hb4.mono hb3.size))).mono ?_); rintro e w5 ⟨v, rfl, ho5, hb5⟩; have HX := Lib.hid (And.intro ho5 hb5); clear ho5 hb5))
     go_ret2
     exact ⟨v, by rw [HE.out.1]; rfl, by rw [HE.out.2]; exact QOwn.less HX.out.1 (Nat.le_trans hb3.size hb4.size), (hb3.trans (hb4.mono hb3.size)).trans (HX.out.2.mono (Nat.le_trans hb3.size hb4.size))⟩
end Go.Proofs.YtdegonmkikfghaaGreatDoor
namespace Go.Proofs.YtdegonmkikfghaaGreatDoor
open Go.RowKit
set_option maxRecDepth 100000
def Neat (l : List QuadL) : Prop := l.length <= 524288 /\ ∀ q ∈ l, Short q
theorem Neat.nil : Neat [] := ⟨by simp, by simp⟩
theorem ownsRow_setQ {w : World} {base : Nat} {e : TypeId} {s : Nat} {v : Value} {n : Nat} {xs : List Value} (h : w.ownsRow base e s v n xs) (p : Addr) (x : Value) (hp : v.ownBlock ≠ some p.block) : (w.setCell p x).ownsRow base e s v n xs := by
 refine ⟨h.1, ?_⟩
 rcases h.2 with hn | ⟨g, cap, cur, rfl, h1, h2, rest⟩
 · exact .inl hn
 · refine .inr ⟨g, cap, cur, rfl, h1, ?_, rest⟩
   rw [heap_setCell_other w p g x (fun e => hp (by rw [<- e]; simp [Value.ownBlock]))]
   exact h2
theorem QOwn.set {w : World} {base : Nat} {v : Value} {l : List QuadL} (h : QOwn base v l w) (p : Addr) (x : Value) (hp : p.block < base) : QOwn base v l (w.setCell p x) :=
 ownsRow_setQ h p x (fun e => by have := own_base h _ e; omega)
structure Box2 (w : World) (g : Nat) (x y : Value) (w' : World) : Prop where
 c0 : w'.cell? ⟨g, 0, none⟩ = some x
 c1 : w'.cell? ⟨g, 1, none⟩ = some y
 f0 : w'.frozen? ⟨g, 0, none⟩ = false
 f1 : w'.frozen? ⟨g, 1, none⟩ = false
 lt : g < w'.heap.size
theorem Box2.mk0 {w : World} {x y : Value} {T : TypeId} : Box2 w w.heap.size x y (w.alloc (.cells #[x, y] T)) :=
 ⟨by rw [World.cell?_alloc_new]; rfl, by rw [World.cell?_alloc_new]; rfl, by rw [World.frozen?_alloc_new], by rw [World.frozen?_alloc_new], by simp⟩
theorem Box2.later {w w1 w2 : World} {g : Nat} {x y : Value} (h : Box2 w g x y w1) (hb : Below w1.heap.size w1 w2) : Box2 w g x y w2 :=
 ⟨(hb.cell (p := ⟨g, 0, none⟩) h.lt).trans h.c0, (hb.cell (p := ⟨g, 1, none⟩) h.lt).trans h.c1, (hb.frozen (p := ⟨g, 0, none⟩) h.lt).trans h.f0, (hb.frozen (p := ⟨g, 1, none⟩) h.lt).trans h.f1, Nat.lt_of_lt_of_le h.lt hb.size⟩
theorem validQ_l (l : List QuadL) (v : Value) (w : World) (hT : TabAt w) (hM : MaxAt w) (hV : QView w v l) (hn : Neat l) :
   Calls Tryz.prog 30 #[v] w fun e w' => e = .returned (.tuple #[.int .i64 (validF l).1, .int .i64 (validF l).2]) /\ Below w.heap.size w w' := by
 obtain ⟨a, c, rfl, _, hq⟩ := hV
 exact valid_l l a c w hT hM hn.2 (by have := hn.1; omega) hq
end Go.Proofs.YtdegonmkikfghaaGreatDoor
namespace Go.Proofs.YtdegonmkikfghaaGreatDoor
open Go.RowKit
set_option maxRecDepth 100000
theorem QView.form {w : World} {v : Value} {l : List QuadL} (h : QView w v l) : ∃ a cap, v = .slice a l.length cap := by
 obtain ⟨a, cap, rfl, _⟩ := h
 exact ⟨a, cap, rfl⟩
def PView (w : World) (mv pv : Value) (p : PatchL) : Prop := QView w mv p.minus /\ QView w pv p.plus
theorem PView.below {w w' : World} {mv pv : Value} {p : PatchL} (h : PView w mv pv p) (hb : Below w.heap.size w w') : PView w' mv pv p := ⟨h.1.below hb, h.2.below hb⟩
def PFresh (base : Nat) (mv pv : Value) (p : PatchL) (w : World) : Prop := QOwn base mv p.minus w /\ QOwn base pv p.plus w /\ Apart mv pv
theorem PFresh.view {base : Nat} {mv pv : Value} {p : PatchL} {w : World} (h : PFresh base mv pv p w) : PView w mv pv p := ⟨h.1.view, h.2.1.view⟩
theorem PFresh.nil (base : Nat) (w : World) : PFresh base (.slice none 0 0) (.slice none 0 0) noPatch w := ⟨QOwn.nil _ _, QOwn.nil _ _, Apart.nil_left _⟩
theorem PFresh.below {base : Nat} {mv pv : Value} {p : PatchL} {w w' : World} (h : PFresh base mv pv p w) (hb : Below w.heap.size w w') : PFresh base mv pv p w' := ⟨h.1.below hb, h.2.1.below hb, h.2.2⟩
end Go.Proofs.YtdegonmkikfghaaGreatDoor
namespace Go.Proofs.YtdegonmkikfghaaGreatDoor
open Go.RowKit
set_option maxRecDepth 100000
theorem compareQuads_mU (a b : QuadL) (w : World) : Calls Tryz.prog 50 #[.agg #[.int .i64 a.s.kind, .string (B a.s.text), .string (B a.s.type), .string (B a.s.lang), .int .i64 a.p.kind, .string (B a.p.text), .string (B a.p.type), .string (B a.p.lang), .int .i64 a.o.kind, .string (B a.o.text), .string (B a.o.type), .string (B a.o.lang), .int .i64 a.g.kind, .string (B a.g.text), .string (B a.g.type), .string (B a.g.lang)], .agg #[.int .i64 b.s.kind, .string (B b.s.text), .string (B b.s.type), .string (B b.s.lang), .int .i64 b.p.kind, .string (B b.p.text), .string (B b.p.type), .string (B b.p.lang), .int .i64 b.o.kind, .string (B b.o.text), .string (B b.o.type), .string (B b.o.lang), .int .i64 b.g.kind, .string (B b.g.text), .string (B b.g.type), .string (B b.g.lang)]] w fun e w' => e = .returned (.int .i64 (cmpQ a b)) /\ Below w.heap.size w w' := compareQuads_l a b w
theorem mergeF_nilU (f m s : Bool) : mergeF f m s [] [] = [] := by rw [mergeF]
set_option maxHeartbeats 4000000 in
theorem mergedU_l (as0 bs0 : List QuadL) (v0 v1 : Value) (w : World) (h0 : QView w v0 as0) (h1 : QView w v1 bs0) (n0 : as0.length <= 2097152) (n1 : bs0.length <= 2097152) :
   Calls Tryz.prog 83 #[v0, v1, .func (.func 50) #[] #[], .bool true, .bool true, .bool true] w fun e w' => ∃ v, e = .returned v /\ QOwn w.heap.size v (mergeF true true true as0 bs0) w' /\ Below w.heap.size w w' := by
 have CM := Lib.hid (fun (x y : QuadL) (u : World) => compareQuads_mU x y u)
 obtain ⟨pa, ca, hv0, hca, _⟩ := id h0
 obtain ⟨pb, cb, hv1, hcb, _⟩ := id h1
 subst hv0 hv1
 have HA := Lib.hid h0
 have HBV := Lib.hid h1
 clear h0 h1 hca hcb
 go_enter Tryz.func83, Tryz.ntmps83
 go_wp2_with fail
 go_loopw [0, 1, 13] (fun av bv ov wr => ∃ ls rs done, Hid (QView w av ls) /\ Hid (QView w bv rs) /\ Hid (QOwn w.heap.size ov done wr) /\ Hid (Below w.heap.size w wr) /\ done.length + ls.length + rs.length <= as0.length + bs0.length /\ Hid (ls.length <= 2097152 /\ rs.length <= 2097152) /\ Hid (mergeF true true true as0 bs0 = done ++ mergeF true true true ls rs)) (fun av bv _ _ => lenV av + lenV bv)
 case atStart => exact ⟨as0, bs0, [], HA, HBV, Lib.hid (QOwn.nil _ _), Lib.hid (Below.refl _ _), by simp, Lib.hid ⟨n0, n1⟩, Lib.hid rfl⟩
 case round =>
   obtain ⟨ls, rs, done, HVA, HVB, HO, HB, hlen, HL, HM⟩ := hrel
   clear HA HBV
   obtain ⟨l0, l1⟩ := HL.out
   rcases ls with _ | ⟨x, ls⟩
   · obtain ⟨ra, ca2, hav⟩ := HVA.out.empty
     rcases rs with _ | ⟨y, rs⟩
     · obtain ⟨rb, cb2, hbv⟩ := HVB.out.empty
       have HE : Hid (mergeF true true true as0 bs0 = done) := Lib.hid (by rw [HM.out, mergeF_nilU, List.append_nil])
       clear HVA HVB HM CM HL
       subst hav hbv
       go_wp2_with fail
       go_ret
       exact ⟨_, rfl, by rw [HE.out]; exact HO.out, HB.out⟩
     · have lb : rs.length <= 2097152 := by simp at l1; omega
       have pb1 : (0 : Int) < (rs.length : Int) + 1 := by omega
       have zb1 : ((rs.length : Int) + 1 == 0) = false := beq_eq_false_iff_ne.2 (by omega)
       obtain ⟨b2, o2, k2, hbv, hk2, hr2, HTB⟩ := HVB.out.cons
       have HR2 := Lib.hid hr2
       have HTB := Lib.hid HTB
       clear hr2
       have HN2 : Hid (mergeF true true true as0 bs0 = (done ++ [y]) ++ mergeF true true true [] rs) := Lib.hid (by rw [HM.out, mergeF_r]; simp)
       clear HM
       have T2 := run_tailQ b2 o2 (rs.length + 1) k2 (by omega)
       have HB5 := HB
       have HO5 := HO
       subst hav hbv
       go_wp2_with (first | (refine wpList_load_quad rfl (.tmp 62) rfl b2 o2 rfl y (range_below HR2.out HB5.out) ?_) | (at_builtin; refine wpList_append_quad rfl (.tmp 60) (.tmp 64) rfl w.heap.size _ done rfl _ HO5.out y 36 rfl rfl (by omega) w HB5.out HB5.out.size ?_; intro v6 w6 ho6 hb6; have HO6 := Lib.hid ho6; have HB6 := Lib.hid hb6; clear ho6 hb6))
       go_roundw
       case rel => exact ⟨[], rs, done ++ [y], HVA, HTB, HO6, HB6, by simp at hlen ⊢; omega, Lib.hid ⟨by simp at l0 ⊢ <;> omega, by simp at l1 ⊢ <;> omega⟩, HN2⟩
       case measure =>
         have la2 : lenV (tailQ b2 o2 (rs.length + 1) k2) = rs.length := HTB.out.len
         simp only [la2]
         simp [lenV]
         try omega
   · rcases rs with _ | ⟨y, rs⟩
     · obtain ⟨rb, cb2, hbv⟩ := HVB.out.empty
       have la : ls.length <= 2097152 := by simp at l0; omega
       have pa1 : (0 : Int) < (ls.length : Int) + 1 := by omega
       have za1 : ((ls.length : Int) + 1 == 0) = false := beq_eq_false_iff_ne.2 (by omega)
       obtain ⟨b1, o1, k1, hav, hk1, hr1, HTA⟩ := HVA.out.cons
       have HR1 := Lib.hid hr1
       have HTA := Lib.hid HTA
       clear hr1
       have HN2 : Hid (mergeF true true true as0 bs0 = (done ++ [x]) ++ mergeF true true true ls []) := Lib.hid (by rw [HM.out, mergeF_l]; simp)
       clear HM
       have T1 := run_tailQ b1 o1 (ls.length + 1) k1 (by omega)
       have HB5 := HB
       have HO5 := HO
       subst hav hbv
       go_wp2_with (first | (refine wpList_load_quad rfl (.tmp 51) rfl b1 o1 rfl x (range_below HR1.out HB5.out) ?_) | (at_builtin; refine wpList_append_quad rfl (.tmp 49) (.tmp 53) rfl w.heap.size _ done rfl _ HO5.out x 36 rfl rfl (by omega) w HB5.out HB5.out.size ?_; intro v6 w6 ho6 hb6; have HO6 := Lib.hid ho6; have HB6 := Lib.hid hb6; clear ho6 hb6))
       go_roundw
       case rel => exact ⟨ls, [], done ++ [x], HTA, HVB, HO6, HB6, by simp at hlen ⊢; omega, Lib.hid ⟨by simp at l0 ⊢ <;> omega, by simp at l1 ⊢ <;> omega⟩, HN2⟩
       case measure =>
         have la1 : lenV (tailQ b1 o1 (ls.length + 1) k1) = ls.length := HTA.out.len
         simp only [la1]
         simp [lenV]
         try omega
     · have la : ls.length <= 2097152 := by simp at l0; omega
       have pa1 : (0 : Int) < (ls.length : Int) + 1 := by omega
       have za1 : ((ls.length : Int) + 1 == 0) = false := beq_eq_false_iff_ne.2 (by omega)
       obtain ⟨b1, o1, k1, hav, hk1, hr1, HTA⟩ := HVA.out.cons
       have HR1 := Lib.hid hr1
       have HTA := Lib.hid HTA
       clear hr1
       have lb : rs.length <= 2097152 := by simp at l1; omega
       have pb1 : (0 : Int) < (rs.length : Int) + 1 := by omega
       have zb1 : ((rs.length : Int) + 1 == 0) = false := beq_eq_false_iff_ne.2 (by omega)
       obtain ⟨b2, o2, k2, hbv, hk2, hr2, HTB⟩ := HVB.out.cons
       have HR2 := Lib.hid hr2
       have HTB := Lib.hid HTB
       clear hr2
       have pab : (0 : Int) < (ls.length : Int) + 1 + ((rs.length : Int) + 1) := by omega
       obtain ⟨n, hn⟩ : ∃ n, cmpQ x y = n := ⟨_, rfl⟩
       have h3 := cmpQ_three x y
       rw [hn] at h3
       have CX := CM.out x y
       rw [hn] at CX
       have HN := Lib.hid hn
       have CM := Lib.hid CX
       clear CX hn
       rcases h3 with rfl | rfl | rfl
       · have HN2 : Hid (mergeF true true true as0 bs0 = (done ++ [x]) ++ mergeF true true true ls (y :: rs)) := Lib.hid (by rw [HM.out, mergeF_lt (by rw [HN.out]; decide)]; simp)
         clear HM
         have T1 := run_tailQ b1 o1 (ls.length + 1) k1 (by omega)
         subst hav hbv
         have RD1 : Hid (wr.drew.rangeAt b1 o1 (quadC x)) := Lib.hid (show wr.rangeAt b1 o1 (quadC x) from range_below HR1.out HB.out)
         have RD2 : Hid (wr.drew.rangeAt b2 o2 (quadC y)) := Lib.hid (show wr.rangeAt b2 o2 (quadC y) from range_below HR2.out HB.out)
         go_wp2_with fail
         refine region_still 7 (by kernel_rfl) (by kernel_rfl) ?_
         simp only [List.take_succ_cons, List.take_zero, List.drop_succ_cons, List.drop_zero]
         repeat (first | refine still_load_quad rfl (.tmp 31) rfl b1 o1 rfl x RD1.out ?_ | refine still_load_quad rfl (.tmp 34) rfl b2 o2 rfl y RD2.out ?_ | still_step)
         refine wpStill_nil ?_
         go_wp2_with (first | (go_at_call 50; (with_reducible refine (CM.out _).mono ?_); rintro e w3 ⟨rfl, hb3⟩; have HB5 := Lib.hid (HB.out.trans (((below_drewN _ 1).trans hb3).mono HB.out.size)); have HO5 := Lib.hid (HO.out.below ((below_drewN _ 1).trans hb3)); clear hb3) | (refine wpList_load_quad rfl (.tmp 51) rfl b1 o1 rfl x (range_below HR1.out HB5.out) ?_) | (at_builtin; refine wpList_append_quad rfl (.tmp 49) (.tmp 53) rfl w.heap.size _ done rfl _ HO5.out x 36 rfl rfl (by omega) w HB5.out HB5.out.size ?_; intro v6 w6 ho6 hb6; have HO6 := Lib.hid ho6; have HB6 := Lib.hid hb6; clear ho6 hb6))
         go_roundw
         case rel => exact ⟨ls, (y :: rs), done ++ [x], HTA, HVB, HO6, HB6, by simp at hlen ⊢; omega, Lib.hid ⟨by simp at l0 ⊢ <;> omega, by simp at l1 ⊢ <;> omega⟩, HN2⟩
         case measure =>
           have la1 : lenV (tailQ b1 o1 (ls.length + 1) k1) = ls.length := HTA.out.len
           simp only [la1]
           simp [lenV]
           try omega
       · have HN2 : Hid (mergeF true true true as0 bs0 = (done ++ [x]) ++ mergeF true true true ls rs) := Lib.hid (by rw [HM.out, mergeF_eq HN.out]; simp)
         clear HM
         have T1 := run_tailQ b1 o1 (ls.length + 1) k1 (by omega)
         have T2 := run_tailQ b2 o2 (rs.length + 1) k2 (by omega)
         subst hav hbv
         have RD1 : Hid (wr.drew.rangeAt b1 o1 (quadC x)) := Lib.hid (show wr.rangeAt b1 o1 (quadC x) from range_below HR1.out HB.out)
         have RD2 : Hid (wr.drew.rangeAt b2 o2 (quadC y)) := Lib.hid (show wr.rangeAt b2 o2 (quadC y) from range_below HR2.out HB.out)
         go_wp2_with fail
         refine region_still 7 (by kernel_rfl) (by kernel_rfl) ?_
         simp only [List.take_succ_cons, List.take_zero, List.drop_succ_cons, List.drop_zero]
         repeat (first | refine still_load_quad rfl (.tmp 31) rfl b1 o1 rfl x RD1.out ?_ | refine still_load_quad rfl (.tmp 34) rfl b2 o2 rfl y RD2.out ?_ | still_step)
         refine wpStill_nil ?_
         go_wp2_with (first | (go_at_call 50; (with_reducible refine (CM.out _).mono ?_); rintro e w3 ⟨rfl, hb3⟩; have HB5 := Lib.hid (HB.out.trans (((below_drewN _ 1).trans hb3).mono HB.out.size)); have HO5 := Lib.hid (HO.out.below ((below_drewN _ 1).trans hb3)); clear hb3) | (refine wpList_load_quad rfl (.tmp 51) rfl b1 o1 rfl x (range_below HR1.out HB5.out) ?_) | (at_builtin; refine wpList_append_quad rfl (.tmp 49) (.tmp 53) rfl w.heap.size _ done rfl _ HO5.out x 36 rfl rfl (by omega) w HB5.out HB5.out.size ?_; intro v6 w6 ho6 hb6; have HO6 := Lib.hid ho6; have HB6 := Lib.hid hb6; clear ho6 hb6))
         go_roundw
         case rel => exact ⟨ls, rs, done ++ [x], HTA, HTB, HO6, HB6, by simp at hlen ⊢; omega, Lib.hid ⟨by simp at l0 ⊢ <;> omega, by simp at l1 ⊢ <;> omega⟩, HN2⟩
         case measure =>
           have la1 : lenV (tailQ b1 o1 (ls.length + 1) k1) = ls.length := HTA.out.len
           have la2 : lenV (tailQ b2 o2 (rs.length + 1) k2) = rs.length := HTB.out.len
           simp only [la1, la2]
           simp [lenV]
           try omega
       · have HN2 : Hid (mergeF true true true as0 bs0 = (done ++ [y]) ++ mergeF true true true (x :: ls) rs) := Lib.hid (by rw [HM.out, mergeF_gt (by rw [HN.out]; decide)]; simp)
         clear HM
         have T2 := run_tailQ b2 o2 (rs.length + 1) k2 (by omega)
         subst hav hbv
         have RD1 : Hid (wr.drew.rangeAt b1 o1 (quadC x)) := Lib.hid (show wr.rangeAt b1 o1 (quadC x) from range_below HR1.out HB.out)
         have RD2 : Hid (wr.drew.rangeAt b2 o2 (quadC y)) := Lib.hid (show wr.rangeAt b2 o2 (quadC y) from range_below HR2.out HB.out)
         go_wp2_with fail
         refine region_still 7 (by kernel_rfl) (by kernel_rfl) ?_
         simp only [List.take_succ_cons, List.take_zero, List.drop_succ_cons, List.drop_zero]
         repeat (first | refine still_load_quad rfl (.tmp 31) rfl b1 o1 rfl x RD1.out ?_ | refine still_load_quad rfl (.tmp 34) rfl b2 o2 rfl y RD2.out ?_ | still_step)
         refine wpStill_nil ?_
         go_wp2_with (first | (go_at_call 50; (with_reducible refine (CM.out _).mono ?_); rintro e w3 ⟨rfl, hb3⟩; have HB5 := Lib.hid (HB.out.trans (((below_drewN _ 1).trans hb3).mono HB.out.size)); have HO5 := Lib.hid (HO.out.below ((below_drewN _ 1).trans hb3)); clear hb3) | (refine wpList_load_quad rfl (.tmp 62) rfl b2 o2 rfl y (range_below HR2.out HB5.out) ?_) | (at_builtin; refine wpList_append_quad rfl (.tmp 60) (.tmp 64) rfl w.heap.size _ done rfl _ HO5.out y 36 rfl rfl (by omega) w HB5.out HB5.out.size ?_; intro v6 w6 ho6 hb6; have HO6 := Lib.hid ho6; have HB6 := Lib.hid hb6; clear ho6 hb6))
         go_roundw
         case rel => exact ⟨(x :: ls), rs, done ++ [y], HVA, HTB, HO6, HB6, by simp at hlen ⊢; omega, Lib.hid ⟨by simp at l0 ⊢ <;> omega, by simp at l1 ⊢ <;> omega⟩, HN2⟩
         case measure =>
           have la2 : lenV (tailQ b2 o2 (rs.length + 1) k2) = rs.length := HTB.out.len
           simp only [la2]
           simp [lenV]
           try omega
end Go.Proofs.YtdegonmkikfghaaGreatDoor
namespace Go.Proofs.YtdegonmkikfghaaGreatDoor
open Go.RowKit
set_option maxRecDepth 100000
theorem mergeOK_u : MergeOK true true true := fun a b v0 v1 w h0 h1 n0 n1 => mergedU_l a b v0 v1 w h0 h1 n0 n1
theorem term_union_l (a b : List QuadL) (v0 v1 : Value) (w : World) (h0 : QView w v0 a) (h1 : QView w v1 b) (n0 : a.length <= 2097152) (n1 : b.length <= 2097152) :
   Calls Tryz.prog 33 #[v0, v1] w fun e w' => ∃ v, e = .returned (.tuple #[v, .int .i64 (twoE a b)]) /\ QOwn w.heap.size v (unionS a b) w' /\ Below w.heap.size w w' := by
 have R := Lib.hid (two_l true true true mergeOK_u a b v0 v1 w h0 h1 n0 n1)
 have HE : Hid (twoS true true true a b = unionS a b) := Lib.hid rfl
 clear h0 h1
 go_enter Tryz.func33, Tryz.ntmps33
 go_wp2_with (go_at_call 54; (with_reducible refine R.out.mono ?_); rintro e w3 ⟨v, rfl, ho, hb⟩; have HX := Lib.hid (And.intro ho hb); clear ho hb)
 go_ret2
 exact ⟨v, rfl, by rw [<- HE.out]; exact HX.out.1, HX.out.2⟩
end Go.Proofs.YtdegonmkikfghaaGreatDoor
namespace Go.Proofs.YtdegonmkikfghaaGreatDoor
open Go.RowKit
set_option maxRecDepth 100000
theorem quadC_arr0 (q : QuadL) : (quadC q).toArray = #[.int .i64 q.s.kind, .string (B q.s.text), .string (B q.s.type), .string (B q.s.lang), .int .i64 q.p.kind, .string (B q.p.text), .string (B q.p.type), .string (B q.p.lang), .int .i64 q.o.kind, .string (B q.o.text), .string (B q.o.type), .string (B q.o.lang), .int .i64 q.g.kind, .string (B q.g.text), .string (B q.g.type), .string (B q.g.lang)] := rfl
set_option maxHeartbeats 1000000 in
theorem neq_self (q : QuadL) (w : World) : (binOp .neq 36 (.agg (quadC q).toArray) (.agg (quadC q).toArray)).run Tryz.prog w = .ok (.bool false) w := by
 obtain ⟨⟨k1, a1, b1, c1⟩, ⟨k2, a2, b2, c2⟩, ⟨k3, a3, b3, c3⟩, ⟨k4, a4, b4, c4⟩⟩ := q
 simp only [quadC, termC, List.cons_append, List.nil_append]
 go_simp
set_option maxHeartbeats 2000000 in
theorem sameQuads_t (l : List QuadL) (v0 v1 : Value) (w : World) (h0 : QView w v0 l) (h1 : QView w v1 l) (hl : l.length <= 4194304) :
   Calls Tryz.prog 27 #[v0, v1] w fun e w' => e = .returned (.bool true) /\ Below w.heap.size w w' := by
 obtain ⟨pa, ca, rfl, _, q0⟩ := h0
 obtain ⟨pb, cb, rfl, _, q1⟩ := h1
 have HA := Lib.hid q0
 have HB := Lib.hid q1
 clear q0 q1
 go_enter Tryz.func27, Tryz.ntmps27
 go_wp2_with fail
 go_loopw [5] (fun i wr => ∃ k : Nat, i = .int .i64 k /\ k <= l.length /\ Below w.heap.size w wr) (fun i _ => l.length - (intOf i).toNat)
 case atStart => exact ⟨0, rfl, Nat.zero_le _, Below.refl _ _⟩
 case round =>
   obtain ⟨k, rfl, hk, hb⟩ := hrel
   by_cases hlt : k < l.length
   · as_aux_lemma =>
     obtain ⟨b, o, rfl⟩ := HA.out.place (by omega)
     obtain ⟨b2, o2, rfl⟩ := HB.out.place (by omega)
     have r1 := (HA.out.below hb).get hlt
     have r2 := (HB.out.below hb).get hlt
     obtain ⟨x, hx⟩ : ∃ x, l[k] = x := ⟨_, rfl⟩
     rw [hx] at r1 r2
     have NE := fun u => neq_self x u
     rw [quadC_arr0] at NE
     obtain ⟨c0, c1, c2, c3, c4, c5, c6, c7, c8, c9, c10, c11, c12, c13, c14, c15⟩ := cells16 r1
     obtain ⟨d0, d1, d2, d3, d4, d5, d6, d7, d8, d9, d10, d11, d12, d13, d14, d15⟩ := cells16 r2
     have BB := Lib.hid hb
     clear hb r1 r2 hx
     have hk3 : (0 : Int) <= (k : Int) := by omega
     go_wp2_with fail
     go_quiet (fail)
     go_wp2_with fail
     go_roundw
     case rel => exact ⟨k + 1, by go_num, hlt, _root_.Go.below_drewN BB.out _⟩
     case measure => simp [intOf]; omega
   · as_aux_lemma =>
     obtain rfl : k = l.length := by omega
     have BB := Lib.hid hb
     clear hb
     go_wp2_with fail
     go_ret
     exact ⟨rfl, BB.out⟩
end Go.Proofs.YtdegonmkikfghaaGreatDoor
namespace Go.Proofs.YtdegonmkikfghaaGreatDoor
open Go.RowKit
set_option maxRecDepth 100000
theorem minusS_len (a b : List QuadL) : (minusS a b).length <= a.length := by
 cases h : riseB a && riseB b with
 | false => unfold minusS; rw [h]; simp
 | true =>
   rw [Bool.and_eq_true, riseB_iff, riseB_iff] at h
   exact minus_len h.1 h.2
end Go.Proofs.YtdegonmkikfghaaGreatDoor
namespace Go.Proofs.YtdegonmkikfghaaGreatDoor
open Go.RowKit
set_option maxRecDepth 100000
theorem Neat.minusS {a b : List QuadL} (h : Neat a) : (minusS a b).length <= 524288 := Nat.le_trans (minusS_len a b) h.1
end Go.Proofs.YtdegonmkikfghaaGreatDoor
namespace Go.Proofs.YtdegonmkikfghaaGreatDoor
open Go.RowKit
set_option maxRecDepth 100000
def PRoomy (w : World) (mv pv : Value) (p : PatchL) : Prop := RoomyAt w mv p.minus /\ RoomyAt w pv p.plus
theorem PRoomy.below {w w' : World} {mv pv : Value} {p : PatchL} (h : PRoomy w mv pv p) (hb : Below w.heap.size w w') : PRoomy w' mv pv p := ⟨h.1.below hb, h.2.below hb⟩
theorem PRoomy.view {w : World} {mv pv : Value} {p : PatchL} (h : PRoomy w mv pv p) : PView w mv pv p := ⟨h.1.view, h.2.view⟩
structure Over2 (w : World) (u v : Value) (w' : World) : Prop where
 os : w'.os = w.os
 tape : w'.tape = w.tape
 output : w'.output = w.output
 size : w.heap.size <= w'.heap.size
 block : ∀ k, k < w.heap.size -> u.ownBlock ≠ some k -> v.ownBlock ≠ some k -> w'.heap[k]? = w.heap[k]?
theorem Over2.own {w w' : World} {u v x : Value} {b : Nat} {l : List QuadL} (h : Over2 w u v w') (hx : QOwn b x l w) (h1 : Apart u x) (h2 : Apart v x) : QOwn b x l w' := by
 refine ⟨hx.1, ?_⟩
 rcases hx.2 with hn | ⟨g, cap, cur, rfl, e1, e2, rest⟩
 · exact .inl hn
 · refine .inr ⟨g, cap, cur, rfl, e1, ?_, rest⟩
   rw [h.block g (Array.getElem?_eq_some_iff.1 e2).1 (fun e => h1 g e rfl) (fun e => h2 g e rfl)]
   exact e2
theorem Over2.below {w w' : World} {u v : Value} {b : Nat} (h : Over2 w u v w') (hb : b <= w.heap.size) (h1 : ∀ k, u.ownBlock = some k -> b <= k) (h2 : ∀ k, v.ownBlock = some k -> b <= k) : Below b w w' :=
 ⟨h.os, h.tape, h.output, h.size, fun k hk => h.block k (by omega) (fun e => by have := h1 k e; omega) (fun e => by have := h2 k e; omega)⟩
end Go.Proofs.YtdegonmkikfghaaGreatDoor
namespace Go.Proofs.YtdegonmkikfghaaGreatDoor
open Go.RowKit
set_option maxRecDepth 100000
theorem PFresh.less {b1 b2 : Nat} {mv pv : Value} {p : PatchL} {w : World} (h : PFresh b2 mv pv p w) (hb : b1 <= b2) : PFresh b1 mv pv p w := ⟨h.1.less hb, h.2.1.less hb, h.2.2⟩
theorem boxP_kept {V u : World} {g : Nat} {x y : Value} (h : V.cell? ⟨g, 0, none⟩ = some x /\ V.cell? ⟨g, 1, none⟩ = some y) (hb : Below V.heap.size V u) : u.cell? ⟨g, 0, none⟩ = some x /\ u.cell? ⟨g, 1, none⟩ = some y := by
 have hz := World.block_lt_of_cell? _ _ h.1
 exact ⟨(hb.cell (p := ⟨g, 0, none⟩) hz).trans h.1, (hb.cell (p := ⟨g, 1, none⟩) hz).trans h.2⟩
structure MakesC (a b : List QuadL) (p : PatchL) (v0 v1 mv pv c d rm rp : Value) (g go : Nat) (u : World) : Prop where
 T : TabAt u
 M : MaxAt u
 v0 : QView u v0 a
 v1 : QView u v1 b
 P : PView u mv pv p
 c : RoomyAt u c a
 d : RoomyAt u d b
 o : PRoomy u rm rp p
 ko : u.cell? ⟨go, 0, none⟩ = some rm /\ u.cell? ⟨go, 1, none⟩ = some rp
 kp : u.cell? ⟨g, 0, none⟩ = some mv /\ u.cell? ⟨g, 1, none⟩ = some pv
theorem MakesC.below {a b : List QuadL} {p : PatchL} {v0 v1 mv pv c d rm rp : Value} {g go : Nat} {u u' : World} (h : MakesC a b p v0 v1 mv pv c d rm rp g go u) (hb : Below u.heap.size u u') : MakesC a b p v0 v1 mv pv c d rm rp g go u' :=
 ⟨h.T.below hb, h.M.below hb, h.v0.below hb, h.v1.below hb, h.P.below hb, h.c.below hb, h.d.below hb, h.o.below hb, boxP_kept h.ko hb, boxP_kept h.kp hb⟩
structure JoinsC (p q : PatchL) (mv pv mv2 pv2 rm rp sm sp : Value) (g gc gd : Nat) (u : World) : Prop where
 T : TabAt u
 M : MaxAt u
 P : PView u mv pv p
 Q : PView u mv2 pv2 q
 c : PRoomy u rm rp p
 d : PRoomy u sm sp q
 kc : u.cell? ⟨gc, 0, none⟩ = some rm /\ u.cell? ⟨gc, 1, none⟩ = some rp
 kd : u.cell? ⟨gd, 0, none⟩ = some sm /\ u.cell? ⟨gd, 1, none⟩ = some sp
 kp : u.cell? ⟨g, 0, none⟩ = some mv /\ u.cell? ⟨g, 1, none⟩ = some pv
 kq : u.cell? ⟨g + 1, 0, none⟩ = some mv2 /\ u.cell? ⟨g + 1, 1, none⟩ = some pv2
theorem JoinsC.below {p q : PatchL} {mv pv mv2 pv2 rm rp sm sp : Value} {g gc gd : Nat} {u u' : World} (h : JoinsC p q mv pv mv2 pv2 rm rp sm sp g gc gd u) (hb : Below u.heap.size u u') : JoinsC p q mv pv mv2 pv2 rm rp sm sp g gc gd u' :=
 ⟨h.T.below hb, h.M.below hb, h.P.below hb, h.Q.below hb, h.c.below hb, h.d.below hb, boxP_kept h.kc hb, boxP_kept h.kd hb, boxP_kept h.kp hb, boxP_kept h.kq hb⟩
end Go.Proofs.YtdegonmkikfghaaGreatDoor
