/-
  tesseralaw23.PatchTexts: what its walk is told. By an AI agent.
-/
import Derived.Test.YtmnigckpejcaeaaGreatDoorZAwake0
import Derived.Test.YtmnigckpejcaeaaGreatDoorZRound
import Derived.Test.YtmnigckpejcaeaaGreatDoorZLoose0
import Derived.Test.YtmnigckpejcaeaaGreatDoorZValid
import Derived.Test.YtmnigckpejcaeaaGreatDoorZRef09Text
import Derived.Test.YtmnigckpejcaeaaGreatDoorZTerm0
import Derived.Laws.Cover1
import Derived.Test.YtmnigckpejcaeaaGreatDoorZLoadQ
import Derived.Test.YtmnigckpejcaeaaGreatDoorZQuad0
import Derived.WalkLawsBesides
import Derived.Test.YtmnigckpejcaeaaGreatDoorZApp
import Derived.Test.YtmnigckpejcaeaaGreatDoorZPatch0
import Derived.IntWalk
import Derived.Deep.QuietTactic
import Derived.BigQuiet
import Derived.Test.YtmnigckpejcaeaaGreatDoorZRefQuadW
import Derived.WideKeyEntry
import Derived.Test.YtmnigckpejcaeaaGreatDoorZAs
import Derived.Maps.OwnOps
import Derived.Test.YtmnigckpejcaeaaGreatDoorZSets
import Derived.BigRegion
import Derived.RegionTactic
import Derived.Test.YtmnigckpejcaeaaGreatDoorZEscBack0
import Derived.Test.YtmnigckpejcaeaaGreatDoorZLabel
import Derived.Deep.CutRange
import Derived.Test.YtmnigckpejcaeaaGreatDoorZPLineB
import Derived.Test.YtmnigckpejcaeaaGreatDoorZSameQ
import Derived.Laws.IdiomStrings
import Derived.Test.YtmnigckpejcaeaaGreatDoorZNeqQ
import Derived.Deep.Cut
namespace Go.Proofs.YtmnigckpejcaeaaGreatDoor
open Go.RowKit
set_option maxRecDepth 100000
theorem BOwn.room23 {base : Nat} {a : Option Addr} {n c : Nat} {l : List UInt8} {w : World} (h : BOwn base (.slice a n c) l w) : n = l.length /\ l.length <= c := by
 obtain ⟨a', c', he, hc, _⟩ := ownsRow_at h
 cases he
 exact ⟨rfl, hc⟩
theorem PrintPost.form {u w' : World} {e : Ending} {L : List UInt8} {n : Int} (h : PrintPost u w' e (L, n)) : ∃ a c, e = .returned (.tuple #[.slice a L.length c, .int .i64 n]) /\ BOwn u.heap.size (.slice a L.length c) L w' /\ Below u.heap.size u w' := by
 obtain ⟨v, rfl, h1, h2⟩ := h
 obtain ⟨a, c, rfl⟩ := BOwn.slice h1
 exact ⟨a, c, rfl, h1, h2⟩
end Go.Proofs.YtmnigckpejcaeaaGreatDoor
namespace Go.Proofs.YtmnigckpejcaeaaGreatDoor
open Go.RowKit
set_option maxRecDepth 100000
theorem neat_min {a b : List QuadL} (ha : Neat a) (fa : Rise a) (fb : Rise b) : Neat (minusS a b) := ⟨Nat.le_trans (minusS_len a b) ha.1, fun q hq => ha.2 q ((mem_minus fa fb q).1 hq).1⟩
theorem pParse_own (p : PatchL) (hf : FineP p) (hN : NeatP p) (base : Nat) (a : Option Addr) (c : Nat) (u : World) (h : BOwn base (.slice a (pText p.minus p.plus).length c) (pText p.minus p.plus) u) (hl : (pText p.minus p.plus).length <= 67108864) (hT : TabAt u) (hM : MaxAt u) (hU : UtAt u) (hE : ErrType u) :
   Calls Tryz.prog 9 #[.slice a (pText p.minus p.plus).length c] u fun e w' => (∃ v1 v2, e = .returned (.tuple #[.agg #[v1, v2], .nilIface]) /\ PView w' v1 v2 p) /\ Below u.heap.size u w' := by
 refine (patchParse_l (pText p.minus p.plus) a c u h.at h.room23.2 hl (pLines_own hf.1.2.1 hf.2.1.2.1) (fun pre m q hp hr => ?_) hT hM hU hE).mono ?_
 · have h1 := pRead_own hf.1.2.1 hf.2.1.2.1 hp hr (rise_nodup hf.1.rise) (rise_nodup hf.2.1.rise) (fun q hq hm => hf.2.2 q hm hq)
   have h2 := hN.1.1
   have h3 := hN.2.1
   omega
 · rintro e w' ⟨hP, hb⟩
   rw [pParse_fine hf] at hP
   obtain ⟨v1, v2, rfl, q1, q2⟩ := hP
   exact ⟨⟨v1, v2, rfl, q1, q2⟩, hb⟩
theorem printP_fine {p : PatchL} (hf : FineP p) (m : Int) : printP p m = if m < ((pText p.minus p.plus).length : Int) then ([], 1) else (pText p.minus p.plus, 0) := by
 unfold printP
 rw [if_neg (by rw [Classical.not_not]; exact (checkN_ok p).2 hf)]
theorem lawValid1_l (a : List QuadL) (v : Value) (g : Nat) (w : World) (hT : TabAt w) (hM : MaxAt w) (c0 : w.cell? ⟨g, 0, none⟩ = some v) (h0 : QView w v a) (n0 : Neat a) :
   Calls Tryz.prog 16 #[.slice (some ⟨g, 0, none⟩) 1 1] w fun e w' => e = .returned (.bool ((validF a).2 == 0)) /\ Below w.heap.size w w' := by
 have h := lawValid_l [a] [v] g w hT hM rfl (fun i h => match i, h with | 0, _ => c0) (fun i h => match i, h with | 0, _ => h0) (fun x hx => by rw [List.mem_singleton.1 hx]; exact n0) (by simp)
 rw [validAll_1] at h
 exact h
structure DIn (a b : List QuadL) (o : PatchL) (va vb om op : Value) (w : World) : Prop where
 T : TabAt w
 M : MaxAt w
 U : UtAt w
 E : ErrType w
 qa : QView w va a
 qb : QView w vb b
 qo : PView w om op o
 na : Neat a
 nb : Neat b
 no : NeatP o
namespace DIn
variable {a b : List QuadL} {o : PatchL} {va vb om op : Value} {w u : World}
theorem aw (J : DIn a b o va vb om op w) (hb : Below w.heap.size w u) : Calls Tryz.prog 14 #[] u fun e w' => e = .returned (.bool true) /\ Below u.heap.size u w' := awake_l u (J.T.below hb) (J.M.below hb)
theorem df (J : DIn a b o va vb om op w) (hb : Below w.heap.size w u) : Calls Tryz.prog 15 #[va, vb] u fun e w' => ∃ mv pv, e = .returned (.tuple #[.agg #[mv, pv], .int .i64 (diffN a b).2]) /\ PFresh u.heap.size mv pv (diffN a b).1 w' /\ Below u.heap.size u w' := patchDiff_l set_ok a b va vb u (J.T.below hb) (J.M.below hb) (J.qa.below hb) (J.qb.below hb) J.na J.nb
theorem v1 (J : DIn a b o va vb om op w) (g : Nat) (hb : Below w.heap.size w u) (c0 : u.cell? ⟨g, 0, none⟩ = some va) : Calls Tryz.prog 16 #[.slice (some ⟨g, 0, none⟩) 1 1] u fun e w' => e = .returned (.bool ((validF a).2 == 0)) /\ Below u.heap.size u w' := lawValid1_l a va g u (J.T.below hb) (J.M.below hb) c0 (J.qa.below hb) J.na
theorem v2 (J : DIn a b o va vb om op w) (g : Nat) (hb : Below w.heap.size w u) (c0 : u.cell? ⟨g, 0, none⟩ = some vb) : Calls Tryz.prog 16 #[.slice (some ⟨g, 0, none⟩) 1 1] u fun e w' => e = .returned (.bool ((validF b).2 == 0)) /\ Below u.heap.size u w' := lawValid1_l b vb g u (J.T.below hb) (J.M.below hb) c0 (J.qb.below hb) J.nb
theorem a1 (J : DIn a b o va vb om op w) (fa : Fine a) (fb : Fine b) (m p : Value) (hb : Below w.heap.size w u) (k : PView u m p ⟨minusS a b, minusS b a⟩) : Calls Tryz.prog 17 #[va, .agg #[m, p]] u fun e w' => ∃ v, e = .returned (.tuple #[v, .int .i64 0]) /\ QOwn u.heap.size v b w' /\ Below u.heap.size u w' := by
 have h := apply_l set_ok a va ⟨minusS a b, minusS b a⟩ m p u (J.T.below hb) (J.M.below hb) (J.qa.below hb) k J.na ⟨neat_min J.na fa.rise fb.rise, neat_min J.nb fb.rise fa.rise⟩
 rw [apply_diff fa fb] at h
 exact h
theorem iv (J : DIn a b o va vb om op w) (fa : Fine a) (fb : Fine b) (m p : Value) (hb : Below w.heap.size w u) (k : PView u m p ⟨minusS a b, minusS b a⟩) : Calls Tryz.prog 18 #[.agg #[m, p]] u fun e w' => ∃ rm rp, e = .returned (.tuple #[.agg #[rm, rp], .int .i64 0]) /\ PFresh u.heap.size rm rp ⟨minusS b a, minusS a b⟩ w' /\ Below u.heap.size u w' := by
 have h := patchInvert_l set_ok ⟨minusS a b, minusS b a⟩ m p u (J.T.below hb) (J.M.below hb) k ⟨neat_min J.na fa.rise fb.rise, neat_min J.nb fb.rise fa.rise⟩
 rw [invert_diff fa fb] at h
 exact h
theorem a2 (J : DIn a b o va vb om op w) (fa : Fine a) (fb : Fine b) (m p : Value) (hb : Below w.heap.size w u) (k : PView u m p ⟨minusS b a, minusS a b⟩) : Calls Tryz.prog 17 #[vb, .agg #[m, p]] u fun e w' => ∃ v, e = .returned (.tuple #[v, .int .i64 0]) /\ QOwn u.heap.size v a w' /\ Below u.heap.size u w' := by
 have h := apply_l set_ok b vb ⟨minusS b a, minusS a b⟩ m p u (J.T.below hb) (J.M.below hb) (J.qb.below hb) k J.nb ⟨neat_min J.nb fb.rise fa.rise, neat_min J.na fa.rise fb.rise⟩
 rw [apply_diff fb fa] at h
 exact h
theorem fo (J : DIn a b o va vb om op w) (hb : Below w.heap.size w u) : Calls Tryz.prog 20 #[va, .agg #[om, op]] u fun e w' => ∃ v, e = .returned (.tuple #[v, .int .i64 (behindN false a o).2]) /\ QOwn u.heap.size v (behindN false a o).1 w' /\ Below u.heap.size u w' := force_l set_ok a va o om op u (J.T.below hb) (J.M.below hb) (J.qa.below hb) (J.qo.below hb) J.na J.no
theorem h1 (J : DIn a b o va vb om op w) (hb : Below w.heap.size w u) : Calls Tryz.prog 5 #[va] u fun e w' => (∃ b, e = .returned (.bool b)) /\ Below u.heap.size u w' := heavy_l a va u (J.qa.below hb) J.na.2 (by have := J.na.1; omega)
theorem h2 (J : DIn a b o va vb om op w) (hb : Below w.heap.size w u) : Calls Tryz.prog 5 #[vb] u fun e w' => (∃ b, e = .returned (.bool b)) /\ Below u.heap.size u w' := heavy_l b vb u (J.qb.below hb) J.nb.2 (by have := J.nb.1; omega)
theorem pr (J : DIn a b o va vb om op w) (fa : Fine a) (fb : Fine b) (m p : Value) (hb : Below w.heap.size w u) (k : PView u m p ⟨minusS a b, minusS b a⟩) : Calls Tryz.prog 7 #[.agg #[m, p], .int .i64 67108864] u fun e w' => PrintPost u w' e (if (67108864 : Int) < ((pText (minusS a b) (minusS b a)).length : Int) then ([], 1) else (pText (minusS a b) (minusS b a), 0)) := by
 have h := patchPrint_l ⟨minusS a b, minusS b a⟩ m p 67108864 u (J.T.below hb) (J.M.below hb) k ⟨neat_min J.na fa.rise fb.rise, neat_min J.nb fb.rise fa.rise⟩
 rw [printP_fine (diff_fine fa fb)] at h
 exact h
theorem pa (J : DIn a b o va vb om op w) (fa : Fine a) (fb : Fine b) (base : Nat) (x : Option Addr) (c : Nat) (hb : Below w.heap.size w u) (h : BOwn base (.slice x (pText (minusS a b) (minusS b a)).length c) (pText (minusS a b) (minusS b a)) u) (hl : (pText (minusS a b) (minusS b a)).length <= 67108864) :
   Calls Tryz.prog 9 #[.slice x (pText (minusS a b) (minusS b a)).length c] u fun e w' => (∃ v1 v2, e = .returned (.tuple #[.agg #[v1, v2], .nilIface]) /\ PView w' v1 v2 ⟨minusS a b, minusS b a⟩) /\ Below u.heap.size u w' :=
 pParse_own ⟨minusS a b, minusS b a⟩ (diff_fine fa fb) ⟨neat_min J.na fa.rise fb.rise, neat_min J.nb fb.rise fa.rise⟩ base x c u h hl (J.T.below hb) (J.M.below hb) (J.U.below hb) (J.E.below hb)
end DIn
end Go.Proofs.YtmnigckpejcaeaaGreatDoor
namespace Go.Proofs.YtmnigckpejcaeaaGreatDoor
open Go.RowKit
set_option maxRecDepth 100000
set_option maxHeartbeats 4000000 in
theorem diffs_bad1 (a b : List QuadL) (o : PatchL) (pa pb pm pp : Option Addr) (ca cb cm cp : Nat) (w : World) (J : DIn a b o (.slice pa a.length ca) (.slice pb b.length cb) (.slice pm o.minus.length cm) (.slice pp o.plus.length cp) w) (n : Int) (hd : diffN a b = (noPatch, n)) (hn : n ≠ 0) (ka : (validF a).2 ≠ 0) :
   Calls Tryz.prog 4 #[.slice pa a.length ca, .slice pb b.length cb, .agg #[.slice pm o.minus.length cm, .slice pp o.plus.length cp]] w fun e w' => e = .returned (.bool true) /\ Below w.heap.size w w' := by
 have HJ := Lib.hid J
 have k0 : (n != 0) = true := bne_iff_ne.2 hn
 have DF := Lib.hid (fun (u : World) (hb : Below w.heap.size w u) => J.df hb)
 rw [hd] at DF
 have V1 := Lib.hid (fun (u : World) (g : Nat) (hb : Below w.heap.size w u) (c : u.cell? ⟨g, 0, none⟩ = some (.slice pa a.length ca)) => J.v1 g hb c)
 rw [show ((validF a).2 == 0) = false from beq_eq_false_iff_ne.2 ka] at V1
 clear J hd hn ka
 obtain ⟨W, hW⟩ : ∃ W, w.alloc (.cells #[.slice pm o.minus.length cm, .slice pp o.plus.length cp] 24) = W := ⟨_, rfl⟩
 have HB0 : Hid (Below w.heap.size w W) := Lib.hid (by rw [<- hW]; exact (Below.refl _ _).alloc (Nat.le_refl _) _)
 have SB : Hid (∀ w', Below W.heap.size W w' -> w'.cell? ⟨w.heap.size, 0, none⟩ = some (.slice pm o.minus.length cm) /\ w'.cell? ⟨w.heap.size, 1, none⟩ = some (.slice pp o.plus.length cp)) := Lib.hid (fun w' hb => by rw [<- hW] at hb; exact boxP_kept boxP_new hb)
 have HB7 : Hid (Below W.heap.size W W) := Lib.hid (Below.refl _ _)
 go_enter Tryz.func4, Tryz.ntmps4
 go_upto_region 5 with (first | (go_at_call 14; (with_reducible refine (HJ.out.aw (HB0.out.trans (HB7.out.mono HB0.out.size))).mono ?_); rintro e w1 ⟨rfl, hb⟩; have HB8 := Lib.hid (HB7.out.trans (hb.mono HB7.out.size)); clear HB7; have HB7 := HB8; clear HB8; clear hb) | (go_at_call 15; (with_reducible refine (DF.out _ (HB0.out.trans (HB7.out.mono HB0.out.size))).mono ?_); rintro e w2 ⟨mv, pv, rfl, hf, hb⟩; obtain ⟨ma, mc, rfl⟩ := hf.view.1.form; obtain ⟨na, nc, rfl⟩ := hf.view.2.form; have HB8 := Lib.hid (HB7.out.trans (hb.mono HB7.out.size)); clear HB7; have HB7 := HB8; clear HB8; clear hb hf))
 have HB8 : Hid (Below W.heap.size W (w2.alloc (.cells #[.slice ma noPatch.minus.length mc, .slice na noPatch.plus.length nc] 24))) := Lib.hid (HB7.out.alloc HB7.out.size _)
 clear HB7
 have HB7 := HB8
 clear HB8
 generalize hV : w2.alloc (.cells #[.slice ma noPatch.minus.length mc, .slice na noPatch.plus.length nc] 24) = V at HB7 ⊢
 clear hV
 go_wp2_with (first | (go_at_call 16; (with_reducible refine (V1.out _ _ ?hv ?c0).mono ?_); (case hv => exact HB0.out.trans ((HB7.out.alloc HB7.out.size _).mono HB0.out.size)); (case c0 => go_simp); rintro e w3 ⟨rfl, hb⟩; have HB8 := Lib.hid (HB7.out.trans ((alloc_trans hb).mono HB7.out.size)); clear HB7 hb; have HB7 := HB8; clear HB8))
 go_ret
 exact ⟨rfl, HB0.out.trans (HB7.out.mono HB0.out.size)⟩
set_option maxHeartbeats 4000000 in
theorem diffs_bad2 (a b : List QuadL) (o : PatchL) (pa pb pm pp : Option Addr) (ca cb cm cp : Nat) (w : World) (J : DIn a b o (.slice pa a.length ca) (.slice pb b.length cb) (.slice pm o.minus.length cm) (.slice pp o.plus.length cp) w) (n : Int) (hd : diffN a b = (noPatch, n)) (hn : n ≠ 0) (ka : (validF a).2 = 0) (kb : (validF b).2 ≠ 0) :
   Calls Tryz.prog 4 #[.slice pa a.length ca, .slice pb b.length cb, .agg #[.slice pm o.minus.length cm, .slice pp o.plus.length cp]] w fun e w' => e = .returned (.bool true) /\ Below w.heap.size w w' := by
 have HJ := Lib.hid J
 have k0 : (n != 0) = true := bne_iff_ne.2 hn
 have DF := Lib.hid (fun (u : World) (hb : Below w.heap.size w u) => J.df hb)
 rw [hd] at DF
 have V1 := Lib.hid (fun (u : World) (g : Nat) (hb : Below w.heap.size w u) (c : u.cell? ⟨g, 0, none⟩ = some (.slice pa a.length ca)) => J.v1 g hb c)
 rw [show ((validF a).2 == 0) = true from beq_iff_eq.2 ka] at V1
 have V2 := Lib.hid (fun (u : World) (g : Nat) (hb : Below w.heap.size w u) (c : u.cell? ⟨g, 0, none⟩ = some (.slice pb b.length cb)) => J.v2 g hb c)
 rw [show ((validF b).2 == 0) = false from beq_eq_false_iff_ne.2 kb] at V2
 clear J hd hn ka kb
 obtain ⟨W, hW⟩ : ∃ W, w.alloc (.cells #[.slice pm o.minus.length cm, .slice pp o.plus.length cp] 24) = W := ⟨_, rfl⟩
 have HB0 : Hid (Below w.heap.size w W) := Lib.hid (by rw [<- hW]; exact (Below.refl _ _).alloc (Nat.le_refl _) _)
 have SB : Hid (∀ w', Below W.heap.size W w' -> w'.cell? ⟨w.heap.size, 0, none⟩ = some (.slice pm o.minus.length cm) /\ w'.cell? ⟨w.heap.size, 1, none⟩ = some (.slice pp o.plus.length cp)) := Lib.hid (fun w' hb => by rw [<- hW] at hb; exact boxP_kept boxP_new hb)
 have HB7 : Hid (Below W.heap.size W W) := Lib.hid (Below.refl _ _)
 go_enter Tryz.func4, Tryz.ntmps4
 go_upto_region 5 with (first | (go_at_call 14; (with_reducible refine (HJ.out.aw (HB0.out.trans (HB7.out.mono HB0.out.size))).mono ?_); rintro e w1 ⟨rfl, hb⟩; have HB8 := Lib.hid (HB7.out.trans (hb.mono HB7.out.size)); clear HB7; have HB7 := HB8; clear HB8; clear hb) | (go_at_call 15; (with_reducible refine (DF.out _ (HB0.out.trans (HB7.out.mono HB0.out.size))).mono ?_); rintro e w2 ⟨mv, pv, rfl, hf, hb⟩; obtain ⟨ma, mc, rfl⟩ := hf.view.1.form; obtain ⟨na, nc, rfl⟩ := hf.view.2.form; have HB8 := Lib.hid (HB7.out.trans (hb.mono HB7.out.size)); clear HB7; have HB7 := HB8; clear HB8; clear hb hf))
 have HB8 : Hid (Below W.heap.size W (w2.alloc (.cells #[.slice ma noPatch.minus.length mc, .slice na noPatch.plus.length nc] 24))) := Lib.hid (HB7.out.alloc HB7.out.size _)
 clear HB7
 have HB7 := HB8
 clear HB8
 generalize hV : w2.alloc (.cells #[.slice ma noPatch.minus.length mc, .slice na noPatch.plus.length nc] 24) = V at HB7 ⊢
 clear hV
 go_wp2_with (first | (go_at_call 16; (with_reducible refine (V1.out _ _ ?hv ?c0).mono ?_); (case hv => exact HB0.out.trans ((HB7.out.alloc HB7.out.size _).mono HB0.out.size)); (case c0 => go_simp); rintro e w3 ⟨rfl, hb⟩; have HB8 := Lib.hid (HB7.out.trans ((alloc_trans hb).mono HB7.out.size)); clear HB7 hb; have HB7 := HB8; clear HB8) | (go_at_call 16; (with_reducible refine (V2.out _ _ ?hv ?c0).mono ?_); (case hv => exact HB0.out.trans ((HB7.out.alloc HB7.out.size _).mono HB0.out.size)); (case c0 => go_simp); rintro e w4 ⟨rfl, hb⟩; have HB8 := Lib.hid (HB7.out.trans ((alloc_trans hb).mono HB7.out.size)); clear HB7 hb; have HB7 := HB8; clear HB8))
 go_ret
 exact ⟨rfl, HB0.out.trans (HB7.out.mono HB0.out.size)⟩
set_option maxHeartbeats 16000000 in
theorem diffs_fine (a b : List QuadL) (o : PatchL) (pa pb pm pp : Option Addr) (ca cb cm cp : Nat) (w : World) (J : DIn a b o (.slice pa a.length ca) (.slice pb b.length cb) (.slice pm o.minus.length cm) (.slice pp o.plus.length cp) w) (fa : Fine a) (fb : Fine b) :
   Calls Tryz.prog 4 #[.slice pa a.length ca, .slice pb b.length cb, .agg #[.slice pm o.minus.length cm, .slice pp o.plus.length cp]] w fun e w' => e = .returned (.bool true) /\ Below w.heap.size w w' := by
 have HJ := Lib.hid J
 have FF := Lib.hid (And.intro fa fb)
 have DF := Lib.hid (fun (u : World) (hb : Below w.heap.size w u) => J.df hb)
 rw [diffN_ok fa fb] at DF
 have SA := Lib.hid (fun (u : World) (x y : Value) (h1 : QView u x a) (h2 : QView u y a) => sameQuads_t a x y u h1 h2 (by have := J.na.1; omega))
 have SQ := Lib.hid (fun (u : World) (x y : Value) (h1 : QView u x b) (h2 : QView u y b) => sameQuads_t b x y u h1 h2 (by have := J.nb.1; omega))
 have SP := Lib.hid (fun (u : World) (x y z t : Value) (h1 : PView u x y ⟨minusS a b, minusS b a⟩) (h2 : PView u z t ⟨minusS a b, minusS b a⟩) => same_t ⟨minusS a b, minusS b a⟩ x y z t u h1 h2 (Nat.le_trans (minusS_len a b) (by have := J.na.1; omega)) (Nat.le_trans (minusS_len b a) (by have := J.nb.1; omega)))
 obtain ⟨FL, hFL⟩ : ∃ z, behindN false a o = z := ⟨_, rfl⟩
 obtain ⟨FL, fn⟩ := FL
 have FO := Lib.hid (fun (u : World) (hb : Below w.heap.size w u) => J.fo hb)
 rw [hFL] at FO
 have SF : Hid (FL ≠ b -> ∀ (u : World) (x y : Value), QView u x FL -> QView u y b -> Calls Tryz.prog 19 #[x, y] u fun e w' => e = .returned (.bool false) /\ Below u.heap.size u w') := Lib.hid (fun hne u x y h1 h2 => sameQuads_f FL b x y u h1 h2 (by have h := behindN_len false a o; rw [hFL] at h; have := J.na.1; have := J.no.2.1; simp only at h; omega) (by have := J.nb.1; omega) hne)
 have LE : Hid (fn = 0 -> FL = b -> (minusS a b).length + (minusS b a).length <= o.minus.length + o.plus.length) := Lib.hid (fun h1 h2 => force_least fa fb (by rw [hFL, h1, h2]))
 have n1 := J.no.1.1
 have n2 := J.no.2.1
 have n3 := Nat.le_trans (minusS_len a b) J.na.1
 have n4 := Nat.le_trans (minusS_len b a) J.nb.1
 have W1 : IntKind.i64.wrap ((o.minus.length : Int) + (o.plus.length : Int)) = (o.minus.length : Int) + (o.plus.length : Int) := IntWalk.i64_in _ (by omega)
 have W2 : IntKind.i64.wrap (((minusS a b).length : Int) + ((minusS b a).length : Int)) = ((minusS a b).length : Int) + ((minusS b a).length : Int) := IntWalk.i64_in _ (by omega)
 clear J hFL fa fb n1 n2 n3 n4
 obtain ⟨W, hW⟩ : ∃ W, w.alloc (.cells #[.slice pm o.minus.length cm, .slice pp o.plus.length cp] 24) = W := ⟨_, rfl⟩
 have HB0 : Hid (Below w.heap.size w W) := Lib.hid (by rw [<- hW]; exact (Below.refl _ _).alloc (Nat.le_refl _) _)
 have SB : Hid (∀ w', Below W.heap.size W w' -> w'.cell? ⟨w.heap.size, 0, none⟩ = some (.slice pm o.minus.length cm) /\ w'.cell? ⟨w.heap.size, 1, none⟩ = some (.slice pp o.plus.length cp)) := Lib.hid (fun w' hb => by rw [<- hW] at hb; exact boxP_kept boxP_new hb)
 have HB7 : Hid (Below W.heap.size W W) := Lib.hid (Below.refl _ _)
 go_enter Tryz.func4, Tryz.ntmps4
 go_upto_region 3 with (go_at_call 14; (with_reducible refine (HJ.out.aw (HB0.out.trans (HB7.out.mono HB0.out.size))).mono ?_); rintro e w1 ⟨rfl, hb⟩; have HB8 := Lib.hid (HB7.out.trans (hb.mono HB7.out.size)); clear HB7; have HB7 := HB8; clear HB8; clear hb)
 go_upto_region 6 with (go_at_call 15; (with_reducible refine (DF.out _ (HB0.out.trans (HB7.out.mono HB0.out.size))).mono ?_); rintro e y2 ⟨mv, pv, rfl, hf, hb⟩; obtain ⟨map, mcp, rfl⟩ := hf.view.1.form; obtain ⟨nap, ncp, rfl⟩ := hf.view.2.form; have HF := Lib.hid hf.view; have HX := Lib.hid hb; clear hf hb)
 have HX2 : Hid (Below w1.heap.size w1 (y2.alloc (.cells #[.slice map (minusS a b).length mcp, .slice nap (minusS b a).length ncp] 24))) := Lib.hid (HX.out.alloc HX.out.size _)
 have Pp : Hid (PView (y2.alloc (.cells #[.slice map (minusS a b).length mcp, .slice nap (minusS b a).length ncp] 24)) (.slice map (minusS a b).length mcp) (.slice nap (minusS b a).length ncp) ⟨minusS a b, minusS b a⟩) := Lib.hid (HF.out.below ((Below.refl _ _).alloc (Nat.le_refl _) _))
 have Kp := Lib.hid (boxP_new (w := y2) (x := .slice map (minusS a b).length mcp) (y := .slice nap (minusS b a).length ncp) (T := 24))
 have HB8 := Lib.hid (HB7.out.trans (HX2.out.mono HB7.out.size))
 clear HB7 HX HX2 HF
 have HB7 := HB8
 clear HB8
 generalize hV : y2.alloc (.cells #[.slice map (minusS a b).length mcp, .slice nap (minusS b a).length ncp] 24) = V2 at HB7 Pp Kp  ⊢
 clear hV
 as_aux_lemma =>
   obtain ⟨k0, k1⟩ := Kp.out
   go_upto_region 7 with (go_at_call 17; (with_reducible refine (HJ.out.a1 FF.out.1 FF.out.2 _ _ (HB0.out.trans (HB7.out.mono HB0.out.size)) Pp.out).mono ?_); rintro e y3 ⟨vv, rfl, ho, hb⟩; obtain ⟨lal, lcl, rfl⟩ := ho.view.form; have Ll := Lib.hid ho.view; have HX := Lib.hid hb; clear ho hb)
   clear k0 k1
   have Pp_ := Lib.hid (PView.below Pp.out HX.out)
   clear Pp
   have Pp := Pp_
   clear Pp_
   have Kp_ := Lib.hid (boxP_kept Kp.out HX.out)
   clear Kp
   have Kp := Kp_
   clear Kp_
   have HB8 := Lib.hid (HB7.out.trans (HX.out.mono HB7.out.size))
   clear HB7 HX
   have HB7 := HB8
   clear HB8
   as_aux_lemma =>
     obtain ⟨k0, k1⟩ := Kp.out
     go_upto_region 8 with (go_at_call 18; (with_reducible refine (HJ.out.iv FF.out.1 FF.out.2 _ _ (HB0.out.trans (HB7.out.mono HB0.out.size)) Pp.out).mono ?_); rintro e y4 ⟨mv, pv, rfl, hf, hb⟩; obtain ⟨maq, mcq, rfl⟩ := hf.view.1.form; obtain ⟨naq, ncq, rfl⟩ := hf.view.2.form; have HF := Lib.hid hf.view; have HX := Lib.hid hb; clear hf hb)
     clear k0 k1
     have HX2 : Hid (Below y3.heap.size y3 (y4.alloc (.cells #[.slice maq (minusS b a).length mcq, .slice naq (minusS a b).length ncq] 24))) := Lib.hid (HX.out.alloc HX.out.size _)
     have Pq : Hid (PView (y4.alloc (.cells #[.slice maq (minusS b a).length mcq, .slice naq (minusS a b).length ncq] 24)) (.slice maq (minusS b a).length mcq) (.slice naq (minusS a b).length ncq) ⟨minusS b a, minusS a b⟩) := Lib.hid (HF.out.below ((Below.refl _ _).alloc (Nat.le_refl _) _))
     have Kq := Lib.hid (boxP_new (w := y4) (x := .slice maq (minusS b a).length mcq) (y := .slice naq (minusS a b).length ncq) (T := 24))
     have Pp_ := Lib.hid (PView.below Pp.out HX2.out)
     clear Pp
     have Pp := Pp_
     clear Pp_
     have Kp_ := Lib.hid (boxP_kept Kp.out HX2.out)
     clear Kp
     have Kp := Kp_
     clear Kp_
     have Ll_ := Lib.hid (QView.below Ll.out HX2.out)
     clear Ll
     have Ll := Ll_
     clear Ll_
     have HB8 := Lib.hid (HB7.out.trans (HX2.out.mono HB7.out.size))
     clear HB7 HX HX2 HF
     have HB7 := HB8
     clear HB8
     generalize hV : y4.alloc (.cells #[.slice maq (minusS b a).length mcq, .slice naq (minusS a b).length ncq] 24) = V4 at HB7 Pq Kq Pp Kp Ll ⊢
     clear hV
     as_aux_lemma =>
       obtain ⟨k0, k1⟩ := Kq.out
       go_upto_region 9 with (go_at_call 17; (with_reducible refine (HJ.out.a2 FF.out.1 FF.out.2 _ _ (HB0.out.trans (HB7.out.mono HB0.out.size)) Pq.out).mono ?_); rintro e y5 ⟨vv, rfl, ho, hb⟩; obtain ⟨lam, lcm, rfl⟩ := ho.view.form; have Lm := Lib.hid ho.view; have HX := Lib.hid hb; clear ho hb)
       clear k0 k1
       have Pp_ := Lib.hid (PView.below Pp.out HX.out)
       clear Pp
       have Pp := Pp_
       clear Pp_
       have Kp_ := Lib.hid (boxP_kept Kp.out HX.out)
       clear Kp
       have Kp := Kp_
       clear Kp_
       have Ll_ := Lib.hid (QView.below Ll.out HX.out)
       clear Ll
       have Ll := Ll_
       clear Ll_
       have HB8 := Lib.hid (HB7.out.trans (HX.out.mono HB7.out.size))
       clear HB7 HX
       have HB7 := HB8
       clear HB8
       as_aux_lemma =>
         clear Pq Kq
         go_upto_region 11 with (first | (go_at_call 19; (with_reducible refine (SQ.out _ _ _ Ll.out (HJ.out.qb.below (HB0.out.trans (HB7.out.mono HB0.out.size)))).mono ?_); rintro e y6 ⟨rfl, hb⟩; have Lm_ := Lib.hid (Lm.out.below hb); clear Lm; have Lm := Lm_; clear Lm_; have HX := Lib.hid hb; clear hb) | (go_at_call 19; (with_reducible refine (SA.out _ _ _ Lm.out (HJ.out.qa.below (HB0.out.trans ((HB7.out.trans (HX.out.mono HB7.out.size)).mono HB0.out.size)))).mono ?_); rintro e y7 ⟨rfl, hb⟩; have HX2 := Lib.hid (HX.out.trans (hb.mono HX.out.size)); clear hb))
         clear Ll Lm HX
         have Pp_ := Lib.hid (PView.below Pp.out HX2.out)
         clear Pp
         have Pp := Pp_
         clear Pp_
         have Kp_ := Lib.hid (boxP_kept Kp.out HX2.out)
         clear Kp
         have Kp := Kp_
         clear Kp_
         have HB8 := Lib.hid (HB7.out.trans (HX2.out.mono HB7.out.size))
         clear HB7 HX2
         have HB7 := HB8
         clear HB8
         as_aux_lemma =>
           obtain ⟨c0, c1⟩ := SB.out _ HB7.out
           go_upto_region 12 with (go_at_call 20; (with_reducible refine (FO.out _ (HB0.out.trans (HB7.out.mono HB0.out.size))).mono ?_); rintro e y8 ⟨vv, rfl, ho, hb⟩; obtain ⟨laf, lcf, rfl⟩ := ho.view.form; have Lf := Lib.hid ho.view; have HX := Lib.hid hb; clear ho hb)
           clear c0 c1
           have Pp_ := Lib.hid (PView.below Pp.out HX.out)
           clear Pp
           have Pp := Pp_
           clear Pp_
           have Kp_ := Lib.hid (boxP_kept Kp.out HX.out)
           clear Kp
           have Kp := Kp_
           clear Kp_
           have HB8 := Lib.hid (HB7.out.trans (HX.out.mono HB7.out.size))
           clear HB7 HX
           have HB7 := HB8
           clear HB8
           as_aux_lemma =>
             obtain ⟨c0, c1⟩ := SB.out _ HB7.out
             obtain ⟨k0, k1⟩ := Kp.out
             have three : fn ≠ 0 \/ (fn = 0 /\ FL ≠ b) \/ (fn = 0 /\ FL = b) := by by_cases h1 : fn = 0 <;> by_cases h2 : FL = b <;> simp [h1, h2]
             rcases three with h | ⟨rfl, h⟩ | ⟨rfl, rfl⟩
             · have q0 : (fn == 0) = false := beq_eq_false_iff_ne.2 h
               clear h
               go_upto_region 14 with fail
               clear c0 c1 k0 k1 q0
               as_aux_lemma =>
                 go_upto_region 16 with (first | (go_at_call 5; (with_reducible refine (HJ.out.h1 (HB0.out.trans (HB7.out.mono HB0.out.size))).mono ?_); rintro e z1 ⟨⟨b1, rfl⟩, hb⟩; have Pp_ := Lib.hid (Pp.out.below hb); clear Pp; have Pp := Pp_; clear Pp_; have Kp_ := Lib.hid (boxP_kept Kp.out hb); clear Kp; have Kp := Kp_; clear Kp_; have HB8 := Lib.hid (HB7.out.trans (hb.mono HB7.out.size)); clear HB7; have HB7 := HB8; clear HB8; clear hb) | (go_at_call 5; (with_reducible refine (HJ.out.h2 (HB0.out.trans (HB7.out.mono HB0.out.size))).mono ?_); rintro e z2 ⟨⟨b2, rfl⟩, hb⟩; have Pp_ := Lib.hid (Pp.out.below hb); clear Pp; have Pp := Pp_; clear Pp_; have Kp_ := Lib.hid (boxP_kept Kp.out hb); clear Kp; have Kp := Kp_; clear Kp_; have HB8 := Lib.hid (HB7.out.trans (hb.mono HB7.out.size)); clear HB7; have HB7 := HB8; clear HB8; clear hb))
                 all_goals (first | (go_ret; exact ⟨rfl, HB0.out.trans (HB7.out.mono HB0.out.size)⟩) | skip)
                 obtain ⟨k0, k1⟩ := Kp.out
                 by_cases hl : (67108864 : Int) < ((pText (minusS a b) (minusS b a)).length : Int)
                 · go_wp2_with (go_at_call 7; (with_reducible refine (HJ.out.pr FF.out.1 FF.out.2 _ _ (HB0.out.trans (HB7.out.mono HB0.out.size)) Pp.out).mono ?_); rintro e z3 hP; rw [if_pos hl] at hP; obtain ⟨a4, c4, rfl, ho, hb⟩ := hP.form; have HO := Lib.hid ho; have HB8 := Lib.hid (HB7.out.trans (hb.mono HB7.out.size)); clear HB7; have HB7 := HB8; clear HB8; have Pp_ := Lib.hid (Pp.out.below hb); clear Pp; have Pp := Pp_; clear Pp_; have Kp_ := Lib.hid (boxP_kept Kp.out hb); clear Kp k0 k1; have Kp := Kp_; clear Kp_; obtain ⟨k0, k1⟩ := Kp.out; clear hb ho hP)
                   go_ret
                   exact ⟨rfl, HB0.out.trans (HB7.out.mono HB0.out.size)⟩
                 · go_upto_region 20 with (first | (go_at_call 7; (with_reducible refine (HJ.out.pr FF.out.1 FF.out.2 _ _ (HB0.out.trans (HB7.out.mono HB0.out.size)) Pp.out).mono ?_); rintro e z3 hP; rw [if_neg hl] at hP; obtain ⟨a4, c4, rfl, ho, hb⟩ := hP.form; have HO := Lib.hid ho; have HB8 := Lib.hid (HB7.out.trans (hb.mono HB7.out.size)); clear HB7; have HB7 := HB8; clear HB8; have Pp_ := Lib.hid (Pp.out.below hb); clear Pp; have Pp := Pp_; clear Pp_; have Kp_ := Lib.hid (boxP_kept Kp.out hb); clear Kp k0 k1; have Kp := Kp_; clear Kp_; obtain ⟨k0, k1⟩ := Kp.out; clear hb ho hP) | (go_at_call 9; (with_reducible refine (HJ.out.pa FF.out.1 FF.out.2 _ _ _ (HB0.out.trans (HB7.out.mono HB0.out.size)) HO.out (by omega)).mono ?_); rintro e z4 ⟨⟨v1, v2, rfl, hq⟩, hb⟩; obtain ⟨ra, rc, rfl⟩ := hq.1.form; obtain ⟨sa, sc, rfl⟩ := hq.2.form; have HQ := Lib.hid hq; have Pp_ := Lib.hid (Pp.out.below hb); clear Pp; have Pp := Pp_; clear Pp_; have Kp_ := Lib.hid (boxP_kept Kp.out hb); clear Kp k0 k1; have Kp := Kp_; clear Kp_; obtain ⟨k0, k1⟩ := Kp.out; have HB8 := Lib.hid (HB7.out.trans (hb.mono HB7.out.size)); clear HB7; have HB7 := HB8; clear HB8; clear hb hq))
                   clear k0 k1
                   have HX : Hid (Below z4.heap.size z4 (z4.alloc (.cells #[.slice ra (minusS a b).length rc, .slice sa (minusS b a).length sc] 24))) := Lib.hid ((Below.refl _ _).alloc (Nat.le_refl _) _)
                   have KR := Lib.hid (boxP_new (w := z4) (x := .slice ra (minusS a b).length rc) (y := .slice sa (minusS b a).length sc) (T := 24))
                   replace HQ := Lib.hid (HQ.out.below HX.out)
                   replace Pp := Lib.hid (Pp.out.below HX.out)
                   replace Kp := Lib.hid (boxP_kept Kp.out HX.out)
                   replace HB7 := Lib.hid (HB7.out.trans (HX.out.mono HB7.out.size))
                   clear HX
                   generalize hV : z4.alloc (.cells #[.slice ra (minusS a b).length rc, .slice sa (minusS b a).length sc] 24) = V5 at HB7 Pp Kp HQ KR ⊢
                   clear hV
                   obtain ⟨k0, k1⟩ := Kp.out
                   obtain ⟨r0, r1⟩ := KR.out
                   go_wp2_with (go_at_call 11; (with_reducible refine (SP.out _ _ _ _ _ HQ.out Pp.out).mono ?_); rintro e z5 ⟨rfl, hb⟩; have HB8 := Lib.hid (HB7.out.trans (hb.mono HB7.out.size)); clear HB7; have HB7 := HB8; clear HB8; clear hb)
                   go_ret
                   exact ⟨rfl, HB0.out.trans (HB7.out.mono HB0.out.size)⟩
             · have SN := Lib.hid (SF.out h)
               clear h
               go_upto_region 14 with (go_at_call 19; (with_reducible refine (SN.out _ _ _ Lf.out (HJ.out.qb.below (HB0.out.trans (HB7.out.mono HB0.out.size)))).mono ?_); rintro e y9 ⟨rfl, hb⟩; have Pp_ := Lib.hid (Pp.out.below hb); clear Pp; have Pp := Pp_; clear Pp_; have Kp_ := Lib.hid (boxP_kept Kp.out hb); clear Kp; have Kp := Kp_; clear Kp_; have HB8 := Lib.hid (HB7.out.trans (hb.mono HB7.out.size)); clear HB7; have HB7 := HB8; clear HB8; clear hb c0 c1 k0 k1; obtain ⟨c0, c1⟩ := SB.out _ HB7.out; obtain ⟨k0, k1⟩ := Kp.out)
               clear c0 c1 k0 k1 SN
               as_aux_lemma =>
                 go_upto_region 16 with (first | (go_at_call 5; (with_reducible refine (HJ.out.h1 (HB0.out.trans (HB7.out.mono HB0.out.size))).mono ?_); rintro e z1 ⟨⟨b1, rfl⟩, hb⟩; have Pp_ := Lib.hid (Pp.out.below hb); clear Pp; have Pp := Pp_; clear Pp_; have Kp_ := Lib.hid (boxP_kept Kp.out hb); clear Kp; have Kp := Kp_; clear Kp_; have HB8 := Lib.hid (HB7.out.trans (hb.mono HB7.out.size)); clear HB7; have HB7 := HB8; clear HB8; clear hb) | (go_at_call 5; (with_reducible refine (HJ.out.h2 (HB0.out.trans (HB7.out.mono HB0.out.size))).mono ?_); rintro e z2 ⟨⟨b2, rfl⟩, hb⟩; have Pp_ := Lib.hid (Pp.out.below hb); clear Pp; have Pp := Pp_; clear Pp_; have Kp_ := Lib.hid (boxP_kept Kp.out hb); clear Kp; have Kp := Kp_; clear Kp_; have HB8 := Lib.hid (HB7.out.trans (hb.mono HB7.out.size)); clear HB7; have HB7 := HB8; clear HB8; clear hb))
                 all_goals (first | (go_ret; exact ⟨rfl, HB0.out.trans (HB7.out.mono HB0.out.size)⟩) | skip)
                 obtain ⟨k0, k1⟩ := Kp.out
                 by_cases hl : (67108864 : Int) < ((pText (minusS a b) (minusS b a)).length : Int)
                 · go_wp2_with (go_at_call 7; (with_reducible refine (HJ.out.pr FF.out.1 FF.out.2 _ _ (HB0.out.trans (HB7.out.mono HB0.out.size)) Pp.out).mono ?_); rintro e z3 hP; rw [if_pos hl] at hP; obtain ⟨a4, c4, rfl, ho, hb⟩ := hP.form; have HO := Lib.hid ho; have HB8 := Lib.hid (HB7.out.trans (hb.mono HB7.out.size)); clear HB7; have HB7 := HB8; clear HB8; have Pp_ := Lib.hid (Pp.out.below hb); clear Pp; have Pp := Pp_; clear Pp_; have Kp_ := Lib.hid (boxP_kept Kp.out hb); clear Kp k0 k1; have Kp := Kp_; clear Kp_; obtain ⟨k0, k1⟩ := Kp.out; clear hb ho hP)
                   go_ret
                   exact ⟨rfl, HB0.out.trans (HB7.out.mono HB0.out.size)⟩
                 · go_upto_region 20 with (first | (go_at_call 7; (with_reducible refine (HJ.out.pr FF.out.1 FF.out.2 _ _ (HB0.out.trans (HB7.out.mono HB0.out.size)) Pp.out).mono ?_); rintro e z3 hP; rw [if_neg hl] at hP; obtain ⟨a4, c4, rfl, ho, hb⟩ := hP.form; have HO := Lib.hid ho; have HB8 := Lib.hid (HB7.out.trans (hb.mono HB7.out.size)); clear HB7; have HB7 := HB8; clear HB8; have Pp_ := Lib.hid (Pp.out.below hb); clear Pp; have Pp := Pp_; clear Pp_; have Kp_ := Lib.hid (boxP_kept Kp.out hb); clear Kp k0 k1; have Kp := Kp_; clear Kp_; obtain ⟨k0, k1⟩ := Kp.out; clear hb ho hP) | (go_at_call 9; (with_reducible refine (HJ.out.pa FF.out.1 FF.out.2 _ _ _ (HB0.out.trans (HB7.out.mono HB0.out.size)) HO.out (by omega)).mono ?_); rintro e z4 ⟨⟨v1, v2, rfl, hq⟩, hb⟩; obtain ⟨ra, rc, rfl⟩ := hq.1.form; obtain ⟨sa, sc, rfl⟩ := hq.2.form; have HQ := Lib.hid hq; have Pp_ := Lib.hid (Pp.out.below hb); clear Pp; have Pp := Pp_; clear Pp_; have Kp_ := Lib.hid (boxP_kept Kp.out hb); clear Kp k0 k1; have Kp := Kp_; clear Kp_; obtain ⟨k0, k1⟩ := Kp.out; have HB8 := Lib.hid (HB7.out.trans (hb.mono HB7.out.size)); clear HB7; have HB7 := HB8; clear HB8; clear hb hq))
                   clear k0 k1
                   have HX : Hid (Below z4.heap.size z4 (z4.alloc (.cells #[.slice ra (minusS a b).length rc, .slice sa (minusS b a).length sc] 24))) := Lib.hid ((Below.refl _ _).alloc (Nat.le_refl _) _)
                   have KR := Lib.hid (boxP_new (w := z4) (x := .slice ra (minusS a b).length rc) (y := .slice sa (minusS b a).length sc) (T := 24))
                   replace HQ := Lib.hid (HQ.out.below HX.out)
                   replace Pp := Lib.hid (Pp.out.below HX.out)
                   replace Kp := Lib.hid (boxP_kept Kp.out HX.out)
                   replace HB7 := Lib.hid (HB7.out.trans (HX.out.mono HB7.out.size))
                   clear HX
                   generalize hV : z4.alloc (.cells #[.slice ra (minusS a b).length rc, .slice sa (minusS b a).length sc] 24) = V5 at HB7 Pp Kp HQ KR ⊢
                   clear hV
                   obtain ⟨k0, k1⟩ := Kp.out
                   obtain ⟨r0, r1⟩ := KR.out
                   go_wp2_with (go_at_call 11; (with_reducible refine (SP.out _ _ _ _ _ HQ.out Pp.out).mono ?_); rintro e z5 ⟨rfl, hb⟩; have HB8 := Lib.hid (HB7.out.trans (hb.mono HB7.out.size)); clear HB7; have HB7 := HB8; clear HB8; clear hb)
                   go_ret
                   exact ⟨rfl, HB0.out.trans (HB7.out.mono HB0.out.size)⟩
             · have h := LE.out rfl rfl
               have q0 : decide ((o.minus.length : Int) + (o.plus.length : Int) < ((minusS a FL).length : Int) + ((minusS FL a).length : Int)) = false := decide_eq_false (by omega)
               clear h
               go_upto_region 14 with (go_at_call 19; (with_reducible refine (SQ.out _ _ _ Lf.out (HJ.out.qb.below (HB0.out.trans (HB7.out.mono HB0.out.size)))).mono ?_); rintro e y9 ⟨rfl, hb⟩; have Pp_ := Lib.hid (Pp.out.below hb); clear Pp; have Pp := Pp_; clear Pp_; have Kp_ := Lib.hid (boxP_kept Kp.out hb); clear Kp; have Kp := Kp_; clear Kp_; have HB8 := Lib.hid (HB7.out.trans (hb.mono HB7.out.size)); clear HB7; have HB7 := HB8; clear HB8; clear hb c0 c1 k0 k1; obtain ⟨c0, c1⟩ := SB.out _ HB7.out; obtain ⟨k0, k1⟩ := Kp.out)
               clear c0 c1 k0 k1 q0
               as_aux_lemma =>
                 go_upto_region 16 with (first | (go_at_call 5; (with_reducible refine (HJ.out.h1 (HB0.out.trans (HB7.out.mono HB0.out.size))).mono ?_); rintro e z1 ⟨⟨b1, rfl⟩, hb⟩; have Pp_ := Lib.hid (Pp.out.below hb); clear Pp; have Pp := Pp_; clear Pp_; have Kp_ := Lib.hid (boxP_kept Kp.out hb); clear Kp; have Kp := Kp_; clear Kp_; have HB8 := Lib.hid (HB7.out.trans (hb.mono HB7.out.size)); clear HB7; have HB7 := HB8; clear HB8; clear hb) | (go_at_call 5; (with_reducible refine (HJ.out.h2 (HB0.out.trans (HB7.out.mono HB0.out.size))).mono ?_); rintro e z2 ⟨⟨b2, rfl⟩, hb⟩; have Pp_ := Lib.hid (Pp.out.below hb); clear Pp; have Pp := Pp_; clear Pp_; have Kp_ := Lib.hid (boxP_kept Kp.out hb); clear Kp; have Kp := Kp_; clear Kp_; have HB8 := Lib.hid (HB7.out.trans (hb.mono HB7.out.size)); clear HB7; have HB7 := HB8; clear HB8; clear hb))
                 all_goals (first | (go_ret; exact ⟨rfl, HB0.out.trans (HB7.out.mono HB0.out.size)⟩) | skip)
                 obtain ⟨k0, k1⟩ := Kp.out
                 by_cases hl : (67108864 : Int) < ((pText (minusS a FL) (minusS FL a)).length : Int)
                 · go_wp2_with (go_at_call 7; (with_reducible refine (HJ.out.pr FF.out.1 FF.out.2 _ _ (HB0.out.trans (HB7.out.mono HB0.out.size)) Pp.out).mono ?_); rintro e z3 hP; rw [if_pos hl] at hP; obtain ⟨a4, c4, rfl, ho, hb⟩ := hP.form; have HO := Lib.hid ho; have HB8 := Lib.hid (HB7.out.trans (hb.mono HB7.out.size)); clear HB7; have HB7 := HB8; clear HB8; have Pp_ := Lib.hid (Pp.out.below hb); clear Pp; have Pp := Pp_; clear Pp_; have Kp_ := Lib.hid (boxP_kept Kp.out hb); clear Kp k0 k1; have Kp := Kp_; clear Kp_; obtain ⟨k0, k1⟩ := Kp.out; clear hb ho hP)
                   go_ret
                   exact ⟨rfl, HB0.out.trans (HB7.out.mono HB0.out.size)⟩
                 · go_upto_region 20 with (first | (go_at_call 7; (with_reducible refine (HJ.out.pr FF.out.1 FF.out.2 _ _ (HB0.out.trans (HB7.out.mono HB0.out.size)) Pp.out).mono ?_); rintro e z3 hP; rw [if_neg hl] at hP; obtain ⟨a4, c4, rfl, ho, hb⟩ := hP.form; have HO := Lib.hid ho; have HB8 := Lib.hid (HB7.out.trans (hb.mono HB7.out.size)); clear HB7; have HB7 := HB8; clear HB8; have Pp_ := Lib.hid (Pp.out.below hb); clear Pp; have Pp := Pp_; clear Pp_; have Kp_ := Lib.hid (boxP_kept Kp.out hb); clear Kp k0 k1; have Kp := Kp_; clear Kp_; obtain ⟨k0, k1⟩ := Kp.out; clear hb ho hP) | (go_at_call 9; (with_reducible refine (HJ.out.pa FF.out.1 FF.out.2 _ _ _ (HB0.out.trans (HB7.out.mono HB0.out.size)) HO.out (by omega)).mono ?_); rintro e z4 ⟨⟨v1, v2, rfl, hq⟩, hb⟩; obtain ⟨ra, rc, rfl⟩ := hq.1.form; obtain ⟨sa, sc, rfl⟩ := hq.2.form; have HQ := Lib.hid hq; have Pp_ := Lib.hid (Pp.out.below hb); clear Pp; have Pp := Pp_; clear Pp_; have Kp_ := Lib.hid (boxP_kept Kp.out hb); clear Kp k0 k1; have Kp := Kp_; clear Kp_; obtain ⟨k0, k1⟩ := Kp.out; have HB8 := Lib.hid (HB7.out.trans (hb.mono HB7.out.size)); clear HB7; have HB7 := HB8; clear HB8; clear hb hq))
                   clear k0 k1
                   have HX : Hid (Below z4.heap.size z4 (z4.alloc (.cells #[.slice ra (minusS a FL).length rc, .slice sa (minusS FL a).length sc] 24))) := Lib.hid ((Below.refl _ _).alloc (Nat.le_refl _) _)
                   have KR := Lib.hid (boxP_new (w := z4) (x := .slice ra (minusS a FL).length rc) (y := .slice sa (minusS FL a).length sc) (T := 24))
                   replace HQ := Lib.hid (HQ.out.below HX.out)
                   replace Pp := Lib.hid (Pp.out.below HX.out)
                   replace Kp := Lib.hid (boxP_kept Kp.out HX.out)
                   replace HB7 := Lib.hid (HB7.out.trans (HX.out.mono HB7.out.size))
                   clear HX
                   generalize hV : z4.alloc (.cells #[.slice ra (minusS a FL).length rc, .slice sa (minusS FL a).length sc] 24) = V5 at HB7 Pp Kp HQ KR ⊢
                   clear hV
                   obtain ⟨k0, k1⟩ := Kp.out
                   obtain ⟨r0, r1⟩ := KR.out
                   go_wp2_with (go_at_call 11; (with_reducible refine (SP.out _ _ _ _ _ HQ.out Pp.out).mono ?_); rintro e z5 ⟨rfl, hb⟩; have HB8 := Lib.hid (HB7.out.trans (hb.mono HB7.out.size)); clear HB7; have HB7 := HB8; clear HB8; clear hb)
                   go_ret
                   exact ⟨rfl, HB0.out.trans (HB7.out.mono HB0.out.size)⟩
theorem diffs_walk23 (a b : List QuadL) (o : PatchL) (va vb om op : Value) (w : World) (hT : TabAt w) (hM : MaxAt w) (hU : UtAt w) (hE : ErrType w) (h0 : QView w va a) (h1 : QView w vb b) (h2 : PView w om op o) (n0 : Neat a) (n1 : Neat b) (n2 : NeatP o) :
   Calls Tryz.prog 4 #[va, vb, .agg #[om, op]] w fun e w' => e = .returned (.bool true) /\ Below w.heap.size w w' := by
 have J : DIn a b o va vb om op w := ⟨hT, hM, hU, hE, h0, h1, h2, n0, n1, n2⟩
 obtain ⟨pa, ca, rfl⟩ := h0.form
 obtain ⟨pb, cb, rfl⟩ := h1.form
 obtain ⟨pm, cm, rfl⟩ := h2.1.form
 obtain ⟨pp, cp, rfl⟩ := h2.2.form
 by_cases ka : (validF a).2 = 0
 · by_cases kb : (validF b).2 = 0
   · exact diffs_fine a b o pa pb pm pp ca cb cm cp w J ((validF_ok a).1 ka) ((validF_ok b).1 kb)
   · exact diffs_bad2 a b o pa pb pm pp ca cb cm cp w J (validF b).2 (by unfold diffN firstN; simp [ka, kb]) kb ka kb
 · exact diffs_bad1 a b o pa pb pm pp ca cb cm cp w J (validF a).2 (by unfold diffN firstN; simp [ka]) ka ka
end Go.Proofs.YtmnigckpejcaeaaGreatDoor
