/-
  The examples of tesseralaw23.awake, plain. By an AI agent.
-/
import Derived.Test.YtmnigckpejcaeaaGreatDoorZPatch0
import Derived.Test.YtmnigckpejcaeaaGreatDoorZSameQ
import Derived.Test.YtmnigckpejcaeaaGreatDoorZSets
import Derived.Test.YtmnigckpejcaeaaGreatDoorZLoadQ
import Derived.Test.YtmnigckpejcaeaaGreatDoorZInvert
import Derived.Deep.Cut
import Derived.Deep.RegionHeld3
import Derived.IntWalk
namespace Go.Proofs.YtmnigckpejcaeaaGreatDoor
open Go.RowKit
set_option maxRecDepth 100000
def exQ (s : List UInt8) : QuadL := ⟨⟨1, s, [], []⟩, ⟨1, s, [], []⟩, ⟨1, s, [], []⟩, noTerm⟩
theorem utf_ex (c : UInt8) (h : c = 97 \/ c = 98 \/ c = 99) : utfF [c, 58] 0 = -1 := by
 have h0 : nextAt [c, 58] ((0 : Nat) : Int) = ((c.toNat : Int), 1) := by rcases h with rfl | rfl | rfl <;> decide
 have h1 : nextAt [c, 58] ((1 : Nat) : Int) = (58, 1) := by rcases h with rfl | rfl | rfl <;> decide
 rw [utfF_go (by simp) h0 (by decide), utfF_go (by simp) h1 (by decide), utfF_end (by simp)]
theorem iri_ex (c : UInt8) (h : c = 97 \/ c = 98 \/ c = 99) : iriN [c, 58] = 0 := by
 have hr : refN [c, 58] = 0 := by
   unfold refN
   rw [utf_ex c h]
   rcases h with rfl | rfl | rfl <;> decide
 unfold iriN
 rw [hr]
 rcases h with rfl | rfl | rfl <;> decide
theorem quad_ex (c : UInt8) (h : c = 97 \/ c = 98 \/ c = 99) : quadN (exQ [c, 58]) = 0 := by
 have ht : termN ⟨1, [c, 58], [], []⟩ = 0 := by
   simp [termN, iri_ex c h]
 unfold quadN exQ
 simp only [ht]
 simp
theorem fine_ex (l : List QuadL) (h : ∀ q ∈ l, q = exQ [97, 58] \/ q = exQ [98, 58] \/ q = exQ [99, 58]) (hl : l.length <= 10) (hr : riseB l = true) : Fine l := by
 refine ⟨by omega, fun q hq => ?_, (riseB_iff l).1 hr⟩
 rcases h q hq with rfl | rfl | rfl
 · exact quad_ex 97 (.inl rfl)
 · exact quad_ex 98 (.inr (.inl rfl))
 · exact quad_ex 99 (.inr (.inr rfl))
def qa : QuadL := exQ [97, 58]
def qb : QuadL := exQ [98, 58]
def qc : QuadL := exQ [99, 58]
theorem cmp_ab : cmpQ qa qb = -1 := by decide
theorem cmp_bc : cmpQ qb qc = -1 := by decide
theorem fine_a : Fine [qa] := fine_ex _ (by simp [qa]) (by simp) rfl
theorem fine_b : Fine [qb] := fine_ex _ (by simp [qb]) (by simp) rfl
theorem fine_c : Fine [qc] := fine_ex _ (by simp [qc]) (by simp) rfl
theorem fine_ab : Fine [qa, qb] := fine_ex _ (by simp [qa, qb]) (by simp) (by simp [riseB, cmp_ab])
theorem fine_bc : Fine [qb, qc] := fine_ex _ (by simp [qb, qc]) (by simp) (by simp [riseB, cmp_bc])
theorem ne_ab : qa ≠ qb := by decide
theorem ne_bc : qb ≠ qc := by decide
theorem ne_ac : qa ≠ qc := by decide
theorem ex_diff : diffN [qa, qb] [qb, qc] = (⟨[qa], [qc]⟩, 0) := by
 rw [diffN_ok fine_ab fine_bc]
 have e1 : minusS [qa, qb] [qb, qc] = [qa] := rise_ext (minus_rise fine_ab.rise fine_bc.rise) fine_a.rise fun x => by
   rw [mem_minus fine_ab.rise fine_bc.rise]
   simp only [List.mem_cons, List.not_mem_nil, or_false]
   constructor
   · rintro ⟨h | h, h2⟩
     · exact h
     · exact absurd (.inl h) h2
   · rintro rfl
     exact ⟨.inl rfl, fun h => h.elim ne_ab ne_ac⟩
 have e2 : minusS [qb, qc] [qa, qb] = [qc] := rise_ext (minus_rise fine_bc.rise fine_ab.rise) fine_c.rise fun x => by
   rw [mem_minus fine_bc.rise fine_ab.rise]
   simp only [List.mem_cons, List.not_mem_nil, or_false]
   constructor
   · rintro ⟨h | h, h2⟩
     · exact absurd (.inr h) h2
     · exact h
   · rintro rfl
     exact ⟨.inr rfl, fun h => h.elim (fun e => ne_ac e.symm) (fun e => ne_bc e.symm)⟩
 rw [e1, e2]
theorem ex_compose : composeN ⟨[qa], [qb]⟩ ⟨[qb], [qc]⟩ = (⟨[qa], [qc]⟩, 0) := by
 have h1 : minusS [qa] [qb] = [qa] := rise_ext (minus_rise fine_a.rise fine_b.rise) fine_a.rise fun x => by
   rw [mem_minus fine_a.rise fine_b.rise]
   simp only [List.mem_cons, List.not_mem_nil, or_false]
   exact ⟨fun h => h.1, fun h => ⟨h, fun e => ne_ab (h ▸ e)⟩⟩
 have h2 : minusS [qb] [qa] = [qb] := rise_ext (minus_rise fine_b.rise fine_a.rise) fine_b.rise fun x => by
   rw [mem_minus fine_b.rise fine_a.rise]
   simp only [List.mem_cons, List.not_mem_nil, or_false]
   exact ⟨fun h => h.1, fun h => ⟨h, fun e => ne_ab (h ▸ e.symm)⟩⟩
 have e := compose_diff fine_a fine_b fine_c
 have h3 : minusS [qb] [qc] = [qb] := rise_ext (minus_rise fine_b.rise fine_c.rise) fine_b.rise fun x => by
   rw [mem_minus fine_b.rise fine_c.rise]
   simp only [List.mem_cons, List.not_mem_nil, or_false]
   exact ⟨fun h => h.1, fun h => ⟨h, fun e => ne_bc (h ▸ e)⟩⟩
 have h4 : minusS [qc] [qb] = [qc] := rise_ext (minus_rise fine_c.rise fine_b.rise) fine_c.rise fun x => by
   rw [mem_minus fine_c.rise fine_b.rise]
   simp only [List.mem_cons, List.not_mem_nil, or_false]
   exact ⟨fun h => h.1, fun h => ⟨h, fun e => ne_bc (h ▸ e.symm)⟩⟩
 have h5 : minusS [qa] [qc] = [qa] := rise_ext (minus_rise fine_a.rise fine_c.rise) fine_a.rise fun x => by
   rw [mem_minus fine_a.rise fine_c.rise]
   simp only [List.mem_cons, List.not_mem_nil, or_false]
   exact ⟨fun h => h.1, fun h => ⟨h, fun e => ne_ac (h ▸ e)⟩⟩
 have h6 : minusS [qc] [qa] = [qc] := rise_ext (minus_rise fine_c.rise fine_a.rise) fine_c.rise fun x => by
   rw [mem_minus fine_c.rise fine_a.rise]
   simp only [List.mem_cons, List.not_mem_nil, or_false]
   exact ⟨fun h => h.1, fun h => ⟨h, fun e => ne_ac (h ▸ e.symm)⟩⟩
 rw [h1, h2, h3, h4, h5, h6] at e
 exact e
end Go.Proofs.YtmnigckpejcaeaaGreatDoor
namespace Go.Proofs.YtmnigckpejcaeaaGreatDoor
open Go.RowKit
set_option maxRecDepth 100000
set_option maxHeartbeats 1000000 in
theorem same_t (p : PatchL) (mv pv mv2 pv2 : Value) (w : World) (h : PView w mv pv p) (h2 : PView w mv2 pv2 p) (n0 : p.minus.length <= 4194304) (n1 : p.plus.length <= 4194304) :
   Calls Tryz.prog 11 #[.agg #[mv, pv], .agg #[mv2, pv2]] w fun e w' => e = .returned (.bool true) /\ Below w.heap.size w w' := by
 have S1 := Lib.hid (fun (u : World) (hb : Below w.heap.size w u) => sameQuads_t p.minus mv mv2 u (h.1.below hb) (h2.1.below hb) n0)
 have S2 := Lib.hid (fun (u : World) (hb : Below w.heap.size w u) => sameQuads_t p.plus pv pv2 u (h.2.below hb) (h2.2.below hb) n1)
 have HB0 : Hid (∀ o1 o2, Below w.heap.size w ((w.alloc o1).alloc o2)) := Lib.hid (fun o1 o2 => ((Below.refl _ _).alloc (Nat.le_refl _) _).alloc (by simp) _)
 obtain ⟨pm, cm, rfl⟩ := h.1.form
 obtain ⟨pp, cp, rfl⟩ := h.2.form
 obtain ⟨qm, dm, rfl⟩ := h2.1.form
 obtain ⟨qp, dp, rfl⟩ := h2.2.form
 have SB : Hid (∀ w', Below ((w.alloc (.cells #[.slice pm p.minus.length cm, .slice pp p.plus.length cp] 24)).alloc (.cells #[.slice qm p.minus.length dm, .slice qp p.plus.length dp] 24)).heap.size ((w.alloc (.cells #[.slice pm p.minus.length cm, .slice pp p.plus.length cp] 24)).alloc (.cells #[.slice qm p.minus.length dm, .slice qp p.plus.length dp] 24)) w' ->
     w'.cell? ⟨w.heap.size, 0, none⟩ = some (.slice pm p.minus.length cm) /\ w'.cell? ⟨w.heap.size, 1, none⟩ = some (.slice pp p.plus.length cp) /\ w'.cell? ⟨w.heap.size + 1, 0, none⟩ = some (.slice qm p.minus.length dm) /\ w'.cell? ⟨w.heap.size + 1, 1, none⟩ = some (.slice qp p.plus.length dp)) := Lib.hid (fun w' hb => by
   obtain ⟨e1, e2⟩ := held2 rfl hb
   exact ⟨e1 0 _ rfl, e1 1 _ rfl, e2 0 _ rfl, e2 1 _ rfl⟩)
 clear h h2 n0 n1
 go_enter Tryz.func11, Tryz.ntmps11
 go_wp2_with (first | (go_at_call 19; (with_reducible refine (S1.out _ (HB0.out _ _)).mono ?_); rintro e w3 ⟨rfl, hb3⟩; obtain ⟨c0, c1, c2, c3⟩ := SB.out _ hb3; have HB := Lib.hid ((HB0.out _ _).trans (hb3.mono (HB0.out _ _).size)); clear hb3 S1) | (go_at_call 19; (with_reducible refine (S2.out _ HB.out).mono ?_); rintro e w4 ⟨rfl, hb4⟩; have HB4 := Lib.hid (HB.out.trans (hb4.mono HB.out.size)); clear hb4 S2))
 go_ret
 exact ⟨rfl, HB4.out⟩
set_option maxHeartbeats 1000000 in
theorem quad_l (s : List UInt8) (w : World) : Calls Tryz.prog 35 #[.string (B s)] w fun e w' => e = .returned (qv (exQ s)) /\ Below w.heap.size w w' := by
 have HB0 : Hid (∀ o1 o2, Below w.heap.size w ((w.alloc o1).alloc o2)) := Lib.hid (fun o1 o2 => ((Below.refl _ _).alloc (Nat.le_refl _) _).alloc (by simp) _)
 go_enter Tryz.func35, Tryz.ntmps35
 go_wp2_with fail
 refine bodyPost_ret (v := qv (exQ s)) (by simp [results, Tryz.results35, go_sem]; exact ⟨rfl, rfl, rfl, rfl, rfl, rfl, rfl, rfl, rfl, rfl, rfl, rfl, rfl, rfl, rfl, rfl⟩) rfl ?_
 exact ⟨rfl, HB0.out _ _⟩
set_option maxHeartbeats 1000000 in
theorem lawValid_l (ls : List (List QuadL)) (vs : List Value) (g : Nat) (w : World) (hT : TabAt w) (hM : MaxAt w) (hl : vs.length = ls.length) (hc : ∀ i (h : i < vs.length), w.cell? ⟨g, i, none⟩ = some vs[i])
   (hV : ∀ i (h : i < vs.length), QView w vs[i] (ls[i]'(by omega))) (hN : ∀ l ∈ ls, Neat l) (h0 : ls.length <= 100) :
   Calls Tryz.prog 16 #[.slice (some ⟨g, 0, none⟩) vs.length vs.length] w fun e w' => e = .returned (.bool (validAll ls == 0)) /\ Below w.heap.size w w' := by
 have VL := Lib.hid (fun (i : Nat) (h : i < vs.length) (h2 : i < ls.length) (u : World) (hb : Below w.heap.size w u) => validQ_l (ls[i]'h2) vs[i] u (hT.below hb) (hM.below hb) ((hV i h).below hb) (hN _ (List.getElem_mem _)))
 have HC := Lib.hid hc
 have HL := Lib.hid hl
 have hn : vs.length <= 100 := by omega
 clear hc hV hN hT hM hl h0
 obtain ⟨N, eN⟩ : ∃ N, vs.length = N := ⟨_, rfl⟩
 rw [eN] at hn ⊢
 have EN := Lib.hid eN
 clear eN
 go_enter Tryz.func16, Tryz.ntmps16
 go_wp2_with fail
 go_loopw [3] (fun i wr => ∃ k : Nat, i = .int .i64 k /\ k <= N /\ Hid (Below w.heap.size w wr) /\ Hid (validAll ls = validAll (ls.drop k))) (fun i _ => N - (intOf i).toNat)
 case atStart => exact ⟨0, rfl, Nat.zero_le _, Lib.hid (Below.refl _ _), Lib.hid rfl⟩
 case round =>
   obtain ⟨k, rfl, hk, HB, HK⟩ := hrel
   by_cases hlt : k < N
   · have hk1 : k < vs.length := by rw [EN.out]; exact hlt
     have hk2 : k < ls.length := by rw [<- HL.out]; exact hk1
     have V1 := VL.out k hk1 hk2
     have c0 : wr.cell? ⟨g, k, none⟩ = some vs[k] := by
       have := HC.out k hk1
       rw [HB.out.cell (p := ⟨g, k, none⟩) (World.block_lt_of_cell? _ _ this)]
       exact this
     have HK2 : Hid (validAll ls = firstN (validF ls[k]).2 (validAll (ls.drop (k + 1)))) := Lib.hid (by rw [HK.out, List.drop_eq_getElem_cons hk2]; rfl)
     obtain ⟨v, hv⟩ : ∃ v, vs[k] = v := ⟨_, rfl⟩
     obtain ⟨y, hy⟩ : ∃ y, validF ls[k] = y := ⟨_, rfl⟩
     obtain ⟨y1, n⟩ := y
     rw [hv] at c0 V1
     rw [hy] at V1 HK2
     have VL := Lib.hid V1
     clear V1 hv hy hk1 hk2 HK HC
     by_cases n0 : n = 0
     · have q9 : (n != 0) = false := by rw [n0]; rfl
       have HN : Hid (validAll ls = validAll (ls.drop (k + 1))) := Lib.hid (by rw [HK2.out, n0]; rfl)
       clear n0 HK2
       go_wp2_with (go_at_call 39; (with_reducible refine (VL.out _ HB.out).mono ?_); rintro e w3 ⟨rfl, hb3⟩; have HB3 := Lib.hid (HB.out.trans (hb3.mono HB.out.size)); clear hb3)
       go_roundw
       case rel => exact ⟨k + 1, by go_num, hlt, HB3, HN⟩
       case measure => simp [intOf]; omega
     · have q9 : (n != 0) = true := by rw [bne, kne n0]; rfl
       have HE : Hid ((validAll ls == 0) = false) := Lib.hid (by rw [HK2.out]; unfold firstN; rw [if_pos n0]; exact kne n0)
       clear n0 HK2
       go_wp2_with (go_at_call 39; (with_reducible refine (VL.out _ HB.out).mono ?_); rintro e w3 ⟨rfl, hb3⟩; have HB3 := Lib.hid (HB.out.trans (hb3.mono HB.out.size)); clear hb3)
       go_ret
       exact ⟨ret_bool HE.out.symm, HB3.out⟩
   · obtain rfl : k = N := by omega
     have HE : Hid ((validAll ls == 0) = true) := Lib.hid (by rw [HK.out, List.drop_of_length_le (by rw [<- HL.out, EN.out]; exact Nat.le_refl _)]; rfl)
     clear HK VL HC
     go_wp2_with fail
     go_ret
     exact ⟨ret_bool HE.out.symm, HB.out⟩
end Go.Proofs.YtmnigckpejcaeaaGreatDoor
namespace Go.Proofs.YtmnigckpejcaeaaGreatDoor
open Go.RowKit
set_option maxRecDepth 100000
theorem behindN_len (must : Bool) (l : List QuadL) (p : PatchL) : (behindN must l p).1.length <= l.length + p.plus.length := by
 have h1 := unionS_len (minusS l p.minus) p.plus
 have h2 := minusS_len l p.minus
 unfold behindN
 split
 · simp
 · split
   · simp
   · split
     · simp
     · simp only; omega
theorem PFresh.less {b1 b2 : Nat} {mv pv : Value} {p : PatchL} {w : World} (h : PFresh b2 mv pv p w) (hb : b1 <= b2) : PFresh b1 mv pv p w := ⟨h.1.less hb, h.2.1.less hb, h.2.2⟩
theorem boxP_new {w : World} {x y : Value} {T : TypeId} : (w.alloc (.cells #[x, y] T)).cell? ⟨w.heap.size, 0, none⟩ = some x /\ (w.alloc (.cells #[x, y] T)).cell? ⟨w.heap.size, 1, none⟩ = some y := ⟨by rw [World.cell?_alloc_new]; rfl, by rw [World.cell?_alloc_new]; rfl⟩
theorem boxP_kept {V u : World} {g : Nat} {x y : Value} (h : V.cell? ⟨g, 0, none⟩ = some x /\ V.cell? ⟨g, 1, none⟩ = some y) (hb : Below V.heap.size V u) : u.cell? ⟨g, 0, none⟩ = some x /\ u.cell? ⟨g, 1, none⟩ = some y := by
 have hz := World.block_lt_of_cell? _ _ h.1
 exact ⟨(hb.cell (p := ⟨g, 0, none⟩) hz).trans h.1, (hb.cell (p := ⟨g, 1, none⟩) hz).trans h.2⟩
end Go.Proofs.YtmnigckpejcaeaaGreatDoor
namespace Go.Proofs.YtmnigckpejcaeaaGreatDoor
open Go.RowKit
set_option maxRecDepth 100000
theorem view_new (w : World) (l : List QuadL) (T : TypeId) (cs : Array Value) (n : Nat) (h : cs = (quadsC l).toArray) (hn : n = l.length) : QView (w.alloc (.cells cs T)) (.slice (some ⟨w.heap.size, 0, none⟩) n n) l := by
 subst h hn
 exact ⟨_, _, rfl, Nat.le_refl _, at_row w (quadsC l) T⟩
theorem range_alloc {w : World} {b o : Nat} {cs : List Value} (h : w.rangeAt b o cs) (x : Obj) : (w.alloc x).rangeAt b o cs := range_below h ((Below.refl _ _).alloc (Nat.le_refl _) _)
theorem QView.alloc {w : World} {v : Value} {l : List QuadL} (h : QView w v l) (x : Obj) : QView (w.alloc x) v l := h.below ((Below.refl _ _).alloc (Nat.le_refl _) _)
theorem neat_ex (l : List QuadL) (h : ∀ q ∈ l, q = qa \/ q = qb \/ q = qc) (hl : l.length <= 10) : Neat l := by
 refine ⟨by omega, fun q hq t ht => ?_⟩
 rcases h q hq with rfl | rfl | rfl <;> rcases ht with rfl | rfl | rfl | rfl <;> decide
theorem below_row23 {B : Nat} {w u : World} {g : Nat} (h : Below B w u) (hg : B <= g) (cs : Array Value) : Below B w (u.setRow g cs) :=
 h.trans ⟨rfl, rfl, rfl, by simp, fun k hk => setRow_other u g k cs (by omega)⟩
theorem QView.place {w : World} {a : Option Addr} {n c : Nat} {l : List QuadL} (h : QView w (.slice a n c) l) (h0 : 0 < l.length) : ∃ b o, a = some ⟨b, o, none⟩ := by
 obtain ⟨a', cap, he, _, hq⟩ := h
 cases he
 exact hq.place h0
theorem QView.first {w : World} {b o n c : Nat} {q : QuadL} {l : List QuadL} (h : QView w (.slice (some ⟨b, o, none⟩) n c) (q :: l)) : w.rangeAt b o (quadC q) := by
 obtain ⟨a', cap, he, _, hq⟩ := h
 cases he
 exact hq.head
theorem view4 (V : World) (x y z u : QuadL) (T : TypeId) :
   PView ((((V.alloc (.cells (quadsC [x]).toArray T)).alloc (.cells (quadsC [y]).toArray T)).alloc (.cells (quadsC [z]).toArray T)).alloc (.cells (quadsC [u]).toArray T)) (.slice (some ⟨V.heap.size, 0, none⟩) 1 1) (.slice (some ⟨V.heap.size + 1, 0, none⟩) 1 1) ⟨[x], [y]⟩ /\
   PView ((((V.alloc (.cells (quadsC [x]).toArray T)).alloc (.cells (quadsC [y]).toArray T)).alloc (.cells (quadsC [z]).toArray T)).alloc (.cells (quadsC [u]).toArray T)) (.slice (some ⟨V.heap.size + 1 + 1, 0, none⟩) 1 1) (.slice (some ⟨V.heap.size + 1 + 1 + 1, 0, none⟩) 1 1) ⟨[z], [u]⟩ := by
 have v1 := view_new V [x] T _ 1 rfl rfl
 have v2 := view_new (V.alloc (.cells (quadsC [x]).toArray T)) [y] T _ 1 rfl rfl
 have v3 := view_new ((V.alloc (.cells (quadsC [x]).toArray T)).alloc (.cells (quadsC [y]).toArray T)) [z] T _ 1 rfl rfl
 have v4 := view_new (((V.alloc (.cells (quadsC [x]).toArray T)).alloc (.cells (quadsC [y]).toArray T)).alloc (.cells (quadsC [z]).toArray T)) [u] T _ 1 rfl rfl
 simp only [World.size_alloc] at v2 v3 v4
 exact ⟨⟨((v1.alloc _).alloc _).alloc _, (v2.alloc _).alloc _⟩, ⟨v3.alloc _, v4⟩⟩
theorem box_new {w : World} {x y : Value} {T : TypeId} : (w.alloc (.cells #[x, y] T)).cell? ⟨w.heap.size, 0, none⟩ = some x /\ (w.alloc (.cells #[x, y] T)).cell? ⟨w.heap.size, 1, none⟩ = some y := ⟨by rw [World.cell?_alloc_new]; rfl, by rw [World.cell?_alloc_new]; rfl⟩
theorem below_4 {B : Nat} {w V : World} (h : Below B w V) (hB : B <= V.heap.size) (a b c d : Obj) : Below B w ((((V.alloc a).alloc b).alloc c).alloc d) := (((h.alloc hB _).alloc (by simp; omega) _).alloc (by simp; omega) _).alloc (by simp; omega) _
theorem alloc_trans4 {w w3 : World} {a b c d : Obj} (hb : Below ((((w.alloc a).alloc b).alloc c).alloc d).heap.size ((((w.alloc a).alloc b).alloc c).alloc d) w3) : Below w.heap.size w w3 := alloc_trans (alloc_trans (alloc_trans (alloc_trans hb)))
theorem alloc_trans2 {w w3 : World} {a b : Obj} (hb : Below ((w.alloc a).alloc b).heap.size ((w.alloc a).alloc b) w3) : Below (w.alloc a).heap.size (w.alloc a) w3 := alloc_trans hb
set_option maxHeartbeats 16000000 in
theorem awake_l (w : World) (hT : TabAt w) (hM : MaxAt w) : Calls Tryz.prog 14 #[] w fun e w' => e = .returned (.bool true) /\ Below w.heap.size w w' := by
 have Q1 : Hid (∀ u, Calls Tryz.prog 35 #[.string ⟨#[97, 58]⟩] u fun e w' => e = .returned (qv qa) /\ Below u.heap.size u w') := Lib.hid (fun u => quad_l [97, 58] u)
 have Q2 : Hid (∀ u, Calls Tryz.prog 35 #[.string ⟨#[98, 58]⟩] u fun e w' => e = .returned (qv qb) /\ Below u.heap.size u w') := Lib.hid (fun u => quad_l [98, 58] u)
 have Q3 : Hid (∀ u, Calls Tryz.prog 35 #[.string ⟨#[99, 58]⟩] u fun e w' => e = .returned (qv qc) /\ Below u.heap.size u w') := Lib.hid (fun u => quad_l [99, 58] u)
 have DF := Lib.hid (fun (v0 v1 : Value) (u : World) (hb : Below w.heap.size w u) (h0 : QView u v0 [qa, qb]) (h1 : QView u v1 [qb, qc]) => patchDiff_l set_ok [qa, qb] [qb, qc] v0 v1 u (hT.below hb) (hM.below hb) h0 h1 (neat_ex _ (by simp) (by simp)) (neat_ex _ (by simp) (by simp)))
 have CO := Lib.hid (fun (m1 p1 m2 p2 : Value) (u : World) (hb : Below w.heap.size w u) (h1 : PView u m1 p1 ⟨[qa], [qb]⟩) (h2 : PView u m2 p2 ⟨[qb], [qc]⟩) => patchCompose_l set_ok ⟨[qa], [qb]⟩ ⟨[qb], [qc]⟩ m1 p1 m2 p2 u (hT.below hb) (hM.below hb) h1 h2 ⟨neat_ex _ (by simp) (by simp), neat_ex _ (by simp) (by simp)⟩ ⟨neat_ex _ (by simp) (by simp), neat_ex _ (by simp) (by simp)⟩)
 rw [ex_diff] at DF
 rw [ex_compose] at CO
 have SA := Lib.hid (fun (m1 p1 m2 p2 : Value) (u : World) (h1 : PView u m1 p1 ⟨[qa], [qc]⟩) (h2 : PView u m2 p2 ⟨[qa], [qc]⟩) => same_t ⟨[qa], [qc]⟩ m1 p1 m2 p2 u h1 h2 (by simp) (by simp))
 clear hT hM
 go_enter Tryz.func14, Tryz.ntmps14
 go_upto_region 2 with (first | (go_at_call 35; (with_reducible refine (Q1.out _).mono ?_); rintro e w1 ⟨rfl, hb⟩; have HB := Lib.hid hb; clear hb) | (go_at_call 35; (with_reducible refine (Q2.out _).mono ?_); rintro e w2 ⟨rfl, hb⟩; have HB2 := Lib.hid (HB.out.trans (hb.mono HB.out.size)); clear hb) | (go_at_call 35; (with_reducible refine (Q3.out _).mono ?_); rintro e w3 ⟨rfl, hb⟩; have HB3 := Lib.hid (HB2.out.trans (hb.mono HB2.out.size)); clear hb) | (refine wpList_store_quad rfl (.tmp 1) (.tmp 8) rfl _ rfl qa rfl ?T1 ?o1 ?hs1 ?hg1 ?_; (case hg1 => exact (heap_3 _ _ _ _).1); (case hs1 => rfl)) | (refine wpList_store_quad rfl (.tmp 2) (.tmp 9) rfl _ rfl qb rfl ?T2 ?o2 ?hs2 ?hg2 ?_; (case hg2 => rw [setRow_other _ _ _ _ (by omega)]; exact (heap_3 _ _ _ _).2.1); (case hs2 => rfl)) | (refine wpList_store_quad rfl (.tmp 3) (.tmp 10) rfl _ rfl qc rfl ?T3 ?o3 ?hs3 ?hg3 ?_; (case hg3 => rw [setRow_other _ _ _ _ (by omega), setRow_other _ _ _ _ (by omega)]; exact (heap_3 _ _ _ _).2.2); (case hs3 => rfl)))
 have RR := Lib.hid (three_rows w3 qa qb qc 56 #[.int .i64 0, .string ⟨#[]⟩, .string ⟨#[]⟩, .string ⟨#[]⟩, .int .i64 0, .string ⟨#[]⟩, .string ⟨#[]⟩, .string ⟨#[]⟩, .int .i64 0, .string ⟨#[]⟩, .string ⟨#[]⟩, .string ⟨#[]⟩, .int .i64 0, .string ⟨#[]⟩, .string ⟨#[]⟩, .string ⟨#[]⟩] #[.int .i64 0, .string ⟨#[]⟩, .string ⟨#[]⟩, .string ⟨#[]⟩, .int .i64 0, .string ⟨#[]⟩, .string ⟨#[]⟩, .string ⟨#[]⟩, .int .i64 0, .string ⟨#[]⟩, .string ⟨#[]⟩, .string ⟨#[]⟩, .int .i64 0, .string ⟨#[]⟩, .string ⟨#[]⟩, .string ⟨#[]⟩] #[.int .i64 0, .string ⟨#[]⟩, .string ⟨#[]⟩, .string ⟨#[]⟩, .int .i64 0, .string ⟨#[]⟩, .string ⟨#[]⟩, .string ⟨#[]⟩, .int .i64 0, .string ⟨#[]⟩, .string ⟨#[]⟩, .string ⟨#[]⟩, .int .i64 0, .string ⟨#[]⟩, .string ⟨#[]⟩, .string ⟨#[]⟩])
 have R1 : Hid (((((((w3.alloc (.cells #[.int .i64 0, .string ⟨#[]⟩, .string ⟨#[]⟩, .string ⟨#[]⟩, .int .i64 0, .string ⟨#[]⟩, .string ⟨#[]⟩, .string ⟨#[]⟩, .int .i64 0, .string ⟨#[]⟩, .string ⟨#[]⟩, .string ⟨#[]⟩, .int .i64 0, .string ⟨#[]⟩, .string ⟨#[]⟩, .string ⟨#[]⟩] 56)).alloc (.cells #[.int .i64 0, .string ⟨#[]⟩, .string ⟨#[]⟩, .string ⟨#[]⟩, .int .i64 0, .string ⟨#[]⟩, .string ⟨#[]⟩, .string ⟨#[]⟩, .int .i64 0, .string ⟨#[]⟩, .string ⟨#[]⟩, .string ⟨#[]⟩, .int .i64 0, .string ⟨#[]⟩, .string ⟨#[]⟩, .string ⟨#[]⟩] 56)).alloc (.cells #[.int .i64 0, .string ⟨#[]⟩, .string ⟨#[]⟩, .string ⟨#[]⟩, .int .i64 0, .string ⟨#[]⟩, .string ⟨#[]⟩, .string ⟨#[]⟩, .int .i64 0, .string ⟨#[]⟩, .string ⟨#[]⟩, .string ⟨#[]⟩, .int .i64 0, .string ⟨#[]⟩, .string ⟨#[]⟩, .string ⟨#[]⟩] 56)).setRow w3.heap.size (quadC qa).toArray).setRow (w3.heap.size + 1) (quadC qb).toArray).setRow (w3.heap.size + 1 + 1) (quadC qc).toArray).rangeAt w3.heap.size 0 (quadC qa)) := Lib.hid RR.out.1
 have R2 : Hid (((((((w3.alloc (.cells #[.int .i64 0, .string ⟨#[]⟩, .string ⟨#[]⟩, .string ⟨#[]⟩, .int .i64 0, .string ⟨#[]⟩, .string ⟨#[]⟩, .string ⟨#[]⟩, .int .i64 0, .string ⟨#[]⟩, .string ⟨#[]⟩, .string ⟨#[]⟩, .int .i64 0, .string ⟨#[]⟩, .string ⟨#[]⟩, .string ⟨#[]⟩] 56)).alloc (.cells #[.int .i64 0, .string ⟨#[]⟩, .string ⟨#[]⟩, .string ⟨#[]⟩, .int .i64 0, .string ⟨#[]⟩, .string ⟨#[]⟩, .string ⟨#[]⟩, .int .i64 0, .string ⟨#[]⟩, .string ⟨#[]⟩, .string ⟨#[]⟩, .int .i64 0, .string ⟨#[]⟩, .string ⟨#[]⟩, .string ⟨#[]⟩] 56)).alloc (.cells #[.int .i64 0, .string ⟨#[]⟩, .string ⟨#[]⟩, .string ⟨#[]⟩, .int .i64 0, .string ⟨#[]⟩, .string ⟨#[]⟩, .string ⟨#[]⟩, .int .i64 0, .string ⟨#[]⟩, .string ⟨#[]⟩, .string ⟨#[]⟩, .int .i64 0, .string ⟨#[]⟩, .string ⟨#[]⟩, .string ⟨#[]⟩] 56)).setRow w3.heap.size (quadC qa).toArray).setRow (w3.heap.size + 1) (quadC qb).toArray).setRow (w3.heap.size + 1 + 1) (quadC qc).toArray).rangeAt (w3.heap.size + 1) 0 (quadC qb)) := Lib.hid RR.out.2.1
 have R3 : Hid (((((((w3.alloc (.cells #[.int .i64 0, .string ⟨#[]⟩, .string ⟨#[]⟩, .string ⟨#[]⟩, .int .i64 0, .string ⟨#[]⟩, .string ⟨#[]⟩, .string ⟨#[]⟩, .int .i64 0, .string ⟨#[]⟩, .string ⟨#[]⟩, .string ⟨#[]⟩, .int .i64 0, .string ⟨#[]⟩, .string ⟨#[]⟩, .string ⟨#[]⟩] 56)).alloc (.cells #[.int .i64 0, .string ⟨#[]⟩, .string ⟨#[]⟩, .string ⟨#[]⟩, .int .i64 0, .string ⟨#[]⟩, .string ⟨#[]⟩, .string ⟨#[]⟩, .int .i64 0, .string ⟨#[]⟩, .string ⟨#[]⟩, .string ⟨#[]⟩, .int .i64 0, .string ⟨#[]⟩, .string ⟨#[]⟩, .string ⟨#[]⟩] 56)).alloc (.cells #[.int .i64 0, .string ⟨#[]⟩, .string ⟨#[]⟩, .string ⟨#[]⟩, .int .i64 0, .string ⟨#[]⟩, .string ⟨#[]⟩, .string ⟨#[]⟩, .int .i64 0, .string ⟨#[]⟩, .string ⟨#[]⟩, .string ⟨#[]⟩, .int .i64 0, .string ⟨#[]⟩, .string ⟨#[]⟩, .string ⟨#[]⟩] 56)).setRow w3.heap.size (quadC qa).toArray).setRow (w3.heap.size + 1) (quadC qb).toArray).setRow (w3.heap.size + 1 + 1) (quadC qc).toArray).rangeAt (w3.heap.size + 1 + 1) 0 (quadC qc)) := Lib.hid RR.out.2.2
 have HB : Hid (Below w.heap.size w ((((((w3.alloc (.cells #[.int .i64 0, .string ⟨#[]⟩, .string ⟨#[]⟩, .string ⟨#[]⟩, .int .i64 0, .string ⟨#[]⟩, .string ⟨#[]⟩, .string ⟨#[]⟩, .int .i64 0, .string ⟨#[]⟩, .string ⟨#[]⟩, .string ⟨#[]⟩, .int .i64 0, .string ⟨#[]⟩, .string ⟨#[]⟩, .string ⟨#[]⟩] 56)).alloc (.cells #[.int .i64 0, .string ⟨#[]⟩, .string ⟨#[]⟩, .string ⟨#[]⟩, .int .i64 0, .string ⟨#[]⟩, .string ⟨#[]⟩, .string ⟨#[]⟩, .int .i64 0, .string ⟨#[]⟩, .string ⟨#[]⟩, .string ⟨#[]⟩, .int .i64 0, .string ⟨#[]⟩, .string ⟨#[]⟩, .string ⟨#[]⟩] 56)).alloc (.cells #[.int .i64 0, .string ⟨#[]⟩, .string ⟨#[]⟩, .string ⟨#[]⟩, .int .i64 0, .string ⟨#[]⟩, .string ⟨#[]⟩, .string ⟨#[]⟩, .int .i64 0, .string ⟨#[]⟩, .string ⟨#[]⟩, .string ⟨#[]⟩, .int .i64 0, .string ⟨#[]⟩, .string ⟨#[]⟩, .string ⟨#[]⟩] 56)).setRow w3.heap.size (quadC qa).toArray).setRow (w3.heap.size + 1) (quadC qb).toArray).setRow (w3.heap.size + 1 + 1) (quadC qc).toArray)) := Lib.hid (by
   have z := HB3.out.size
   exact below_row23 (below_row23 (below_row23 (((HB3.out.alloc HB3.out.size _).alloc (by simp; omega) _).alloc (by simp; omega) _) z _) (by omega) _) (by omega) _)
 clear RR
 clear HB2 HB3
 generalize (((((w3.alloc (.cells #[.int .i64 0, .string ⟨#[]⟩, .string ⟨#[]⟩, .string ⟨#[]⟩, .int .i64 0, .string ⟨#[]⟩, .string ⟨#[]⟩, .string ⟨#[]⟩, .int .i64 0, .string ⟨#[]⟩, .string ⟨#[]⟩, .string ⟨#[]⟩, .int .i64 0, .string ⟨#[]⟩, .string ⟨#[]⟩, .string ⟨#[]⟩] 56)).alloc (.cells #[.int .i64 0, .string ⟨#[]⟩, .string ⟨#[]⟩, .string ⟨#[]⟩, .int .i64 0, .string ⟨#[]⟩, .string ⟨#[]⟩, .string ⟨#[]⟩, .int .i64 0, .string ⟨#[]⟩, .string ⟨#[]⟩, .string ⟨#[]⟩, .int .i64 0, .string ⟨#[]⟩, .string ⟨#[]⟩, .string ⟨#[]⟩] 56)).alloc (.cells #[.int .i64 0, .string ⟨#[]⟩, .string ⟨#[]⟩, .string ⟨#[]⟩, .int .i64 0, .string ⟨#[]⟩, .string ⟨#[]⟩, .string ⟨#[]⟩, .int .i64 0, .string ⟨#[]⟩, .string ⟨#[]⟩, .string ⟨#[]⟩, .int .i64 0, .string ⟨#[]⟩, .string ⟨#[]⟩, .string ⟨#[]⟩] 56)).setRow w3.heap.size (quadC qa).toArray).setRow (w3.heap.size + 1) (quadC qb).toArray).setRow (w3.heap.size + 1 + 1) (quadC qc).toArray = V at R1 R2 R3 HB ⊢
 as_aux_lemma =>
   have VW : Hid (∀ T, QView ((V.alloc (.cells (quadsC [qa, qb]).toArray T)).alloc (.cells (quadsC [qb, qc]).toArray T)) (.slice (some ⟨V.heap.size, 0, none⟩) 2 2) [qa, qb] /\ QView ((V.alloc (.cells (quadsC [qa, qb]).toArray T)).alloc (.cells (quadsC [qb, qc]).toArray T)) (.slice (some ⟨V.heap.size + 1, 0, none⟩) 2 2) [qb, qc]) := Lib.hid (fun T => ⟨(view_new V [qa, qb] T _ 2 rfl rfl).alloc _, by
     have := view_new (V.alloc (.cells (quadsC [qa, qb]).toArray T)) [qb, qc] T (quadsC [qb, qc]).toArray 2 rfl rfl
     rwa [World.size_alloc] at this⟩)
   go_upto_region 3 with (first | (refine wpList_load_quad rfl (.tmp 1) rfl _ 0 rfl qa ?hrR1 ?_; (case hrR1 => first | with_reducible exact R1.out | with_reducible exact range_alloc R1.out _ | with_reducible exact range_alloc (range_alloc R1.out _) _ | with_reducible exact range_alloc (range_alloc (range_alloc R1.out _) _) _)) | (refine wpList_load_quad rfl (.tmp 2) rfl _ 0 rfl qb ?hrR2 ?_; (case hrR2 => first | with_reducible exact R2.out | with_reducible exact range_alloc R2.out _ | with_reducible exact range_alloc (range_alloc R2.out _) _ | with_reducible exact range_alloc (range_alloc (range_alloc R2.out _) _) _)) | (refine wpList_load_quad rfl (.tmp 3) rfl _ 0 rfl qc ?hrR3 ?_; (case hrR3 => first | with_reducible exact R3.out | with_reducible exact range_alloc R3.out _ | with_reducible exact range_alloc (range_alloc R3.out _) _ | with_reducible exact range_alloc (range_alloc (range_alloc R3.out _) _) _)) | (refine wpList_build2 rfl (.tmp 12) (.tmp 13) rfl qa qb rfl rfl ?_) | (refine wpList_build2 rfl (.tmp 15) (.tmp 16) rfl qb qc rfl rfl ?_) | (go_at_call 15; (with_reducible refine (DF.out _ _ _ ?hb ?h0 ?h1).mono ?_); (case hb => exact (HB.out.alloc HB.out.size _).alloc (Nat.le_trans HB.out.size (by simp)) _); (case h0 => exact (VW.out _).1); (case h1 => exact (VW.out _).2); rintro e w5 ⟨mv, pv, rfl, hf, hb⟩; obtain ⟨pa1, ca1, rfl⟩ := hf.view.1.form; obtain ⟨pa2, ca2, rfl⟩ := hf.view.2.form; obtain ⟨b1, o1, rfl⟩ := QView.place hf.view.1 (by simp); obtain ⟨b2, o2, rfl⟩ := QView.place hf.view.2 (by simp); have HF := Lib.hid hf; have HX := Lib.hid (alloc_trans (alloc_trans2 hb)); clear hf hb))
   have HB2 := Lib.hid ((HB.out.trans (HX.out.mono HB.out.size)).alloc (Nat.le_trans HB.out.size HX.out.size) (.cells #[.slice (some ⟨b1, o1, none⟩) 1 ca1, .slice (some ⟨b2, o2, none⟩) 1 ca2] 24))
   have S1 := Lib.hid (range_alloc (range_below R1.out HX.out) (.cells #[.slice (some ⟨b1, o1, none⟩) 1 ca1, .slice (some ⟨b2, o2, none⟩) 1 ca2] 24))
   have S2 := Lib.hid (range_alloc (range_below R2.out HX.out) (.cells #[.slice (some ⟨b1, o1, none⟩) 1 ca1, .slice (some ⟨b2, o2, none⟩) 1 ca2] 24))
   have S3 := Lib.hid (range_alloc (range_below R3.out HX.out) (.cells #[.slice (some ⟨b1, o1, none⟩) 1 ca1, .slice (some ⟨b2, o2, none⟩) 1 ca2] 24))
   have PV : Hid (PView (w5.alloc (.cells #[.slice (some ⟨b1, o1, none⟩) 1 ca1, .slice (some ⟨b2, o2, none⟩) 1 ca2] 24)) (.slice (some ⟨b1, o1, none⟩) 1 ca1) (.slice (some ⟨b2, o2, none⟩) 1 ca2) ⟨[qa], [qc]⟩) := Lib.hid (PView.below HF.out.view ((Below.refl _ _).alloc (Nat.le_refl _) _))
   have BX := Lib.hid (box_new (w := w5) (x := .slice (some ⟨b1, o1, none⟩) 1 ca1) (y := .slice (some ⟨b2, o2, none⟩) 1 ca2) (T := 24))
   clear HB HX R1 R2 R3 HF VW
   generalize hV2 : w5.alloc (.cells #[.slice (some ⟨b1, o1, none⟩) 1 ca1, .slice (some ⟨b2, o2, none⟩) 1 ca2] 24) = V2 at HB2 S1 S2 S3 PV BX ⊢
   clear hV2
   as_aux_lemma =>
     have V4 : Hid (∀ T, _) := Lib.hid (fun T => view4 V2 qa qb qb qc T)
     go_upto_region 4 with (first | (refine wpList_load_quad rfl (.tmp 1) rfl _ 0 rfl qa ?hrS1 ?_; (case hrS1 => first | with_reducible exact S1.out | with_reducible exact range_alloc S1.out _ | with_reducible exact range_alloc (range_alloc S1.out _) _ | with_reducible exact range_alloc (range_alloc (range_alloc S1.out _) _) _)) | (refine wpList_load_quad rfl (.tmp 2) rfl _ 0 rfl qb ?hrS2 ?_; (case hrS2 => first | with_reducible exact S2.out | with_reducible exact range_alloc S2.out _ | with_reducible exact range_alloc (range_alloc S2.out _) _ | with_reducible exact range_alloc (range_alloc (range_alloc S2.out _) _) _)) | (refine wpList_load_quad rfl (.tmp 3) rfl _ 0 rfl qc ?hrS3 ?_; (case hrS3 => first | with_reducible exact S3.out | with_reducible exact range_alloc S3.out _ | with_reducible exact range_alloc (range_alloc S3.out _) _ | with_reducible exact range_alloc (range_alloc (range_alloc S3.out _) _) _)) | (refine wpList_build1 rfl (.tmp 22) rfl qa rfl ?_) | (refine wpList_build1 rfl (.tmp 24) rfl qb rfl ?_) | (refine wpList_build1 rfl (.tmp 27) rfl qb rfl ?_) | (refine wpList_build1 rfl (.tmp 29) rfl qc rfl ?_) | (go_at_call 36; (with_reducible refine (CO.out _ _ _ _ _ ?hb2 ?h2 ?h3).mono ?_); (case hb2 => exact below_4 HB2.out HB2.out.size _ _ _ _); (case h2 => exact (V4.out _).1); (case h3 => exact (V4.out _).2); rintro e w7 ⟨mv, pv, rfl, hf, hb⟩; obtain ⟨pa3, ca3, rfl⟩ := hf.view.1.form; obtain ⟨pa4, ca4, rfl⟩ := hf.view.2.form; have HF := Lib.hid hf.view; have HX := Lib.hid (alloc_trans4 hb); clear hf hb))
     have HB3 := Lib.hid ((HB2.out.trans (HX.out.mono HB2.out.size)).alloc (Nat.le_trans HB2.out.size HX.out.size) (.cells #[.slice pa3 1 ca3, .slice pa4 1 ca4] 24))
     have T1 := Lib.hid (range_alloc (range_below S1.out HX.out) (.cells #[.slice pa3 1 ca3, .slice pa4 1 ca4] 24))
     have T3 := Lib.hid (range_alloc (range_below S3.out HX.out) (.cells #[.slice pa3 1 ca3, .slice pa4 1 ca4] 24))
     have PV2 : Hid (PView (w7.alloc (.cells #[.slice pa3 1 ca3, .slice pa4 1 ca4] 24)) (.slice (some ⟨b1, o1, none⟩) 1 ca1) (.slice (some ⟨b2, o2, none⟩) 1 ca2) ⟨[qa], [qc]⟩) := Lib.hid ((PView.below PV.out HX.out).below ((Below.refl _ _).alloc (Nat.le_refl _) _))
     have PV3 : Hid (PView (w7.alloc (.cells #[.slice pa3 1 ca3, .slice pa4 1 ca4] 24)) (.slice pa3 1 ca3) (.slice pa4 1 ca4) ⟨[qa], [qc]⟩) := Lib.hid (PView.below HF.out ((Below.refl _ _).alloc (Nat.le_refl _) _))
     have BY : Hid ((w7.alloc (.cells #[.slice pa3 1 ca3, .slice pa4 1 ca4] 24)).cell? ⟨w5.heap.size, 0, none⟩ = some (.slice (some ⟨b1, o1, none⟩) 1 ca1) /\ (w7.alloc (.cells #[.slice pa3 1 ca3, .slice pa4 1 ca4] 24)).cell? ⟨w5.heap.size, 1, none⟩ = some (.slice (some ⟨b2, o2, none⟩) 1 ca2)) := Lib.hid (by
       have hz := World.block_lt_of_cell? _ _ BX.out.1
       have hb : Below V2.heap.size V2 (w7.alloc (.cells #[.slice pa3 1 ca3, .slice pa4 1 ca4] 24)) := HX.out.alloc HX.out.size _
       exact ⟨(hb.cell (p := ⟨w5.heap.size, 0, none⟩) hz).trans BX.out.1, (hb.cell (p := ⟨w5.heap.size, 1, none⟩) hz).trans BX.out.2⟩)
     have BZ := Lib.hid (box_new (w := w7) (x := .slice pa3 1 ca3) (y := .slice pa4 1 ca4) (T := 24))
     clear HB2 HX S1 S2 S3 HF V4 PV BX
     generalize hV3 : w7.alloc (.cells #[.slice pa3 1 ca3, .slice pa4 1 ca4] 24) = V3 at HB3 T1 T3 PV2 PV3 BY BZ ⊢
     clear hV3
     as_aux_lemma =>
       have SAX := Lib.hid (SA.out _ _ _ _ V3.drew (show PView V3.drew _ _ _ from PView.below PV2.out (below_drewN _ 1)) (show PView V3.drew _ _ _ from PView.below PV3.out (below_drewN _ 1)))
       obtain ⟨k0, k1⟩ := BY.out
       obtain ⟨j0, j1⟩ := BZ.out
       have D1 : Hid (V3.drew.rangeAt w3.heap.size 0 (quadC qa)) := Lib.hid (show V3.rangeAt w3.heap.size 0 (quadC qa) from T1.out)
       have D2 : Hid (V3.drew.rangeAt (w3.heap.size + 1 + 1) 0 (quadC qc)) := Lib.hid (show V3.rangeAt (w3.heap.size + 1 + 1) 0 (quadC qc) from T3.out)
       have D3 : Hid (V3.drew.rangeAt b1 o1 (quadC qa)) := Lib.hid (show V3.rangeAt b1 o1 (quadC qa) from PV2.out.1.first)
       have D4 : Hid (V3.drew.rangeAt b2 o2 (quadC qc)) := Lib.hid (show V3.rangeAt b2 o2 (quadC qc) from PV2.out.2.first)
       clear Q1 Q2 Q3 DF CO SA
       go_wp2_with fail
       refine region_still 37 (by kernel_rfl) (by kernel_rfl) ?_
       simp only [List.take_succ_cons, List.take_zero, List.drop_succ_cons, List.drop_zero]
       repeat (first | (refine still_load_quadG (.tmp 1) rfl ?hw1 w3.heap.size 0 rfl qa D1.out ?_; (case hw1 => go_simp)) | (refine still_load_quadG (.tmp 3) rfl ?hw2 (w3.heap.size + 1 + 1) 0 rfl qc D2.out ?_; (case hw2 => go_simp)) | (refine still_load_quadG (.tmp 50) rfl ?hw3 b1 o1 rfl qa D3.out ?_; (case hw3 => go_simp)) | (refine still_load_quadG (.tmp 64) rfl ?hw4 b2 o2 rfl qc D4.out ?_; (case hw4 => go_simp)) | still_step)
       refine wpStill_nil ?_
       go_wp2_with (go_at_call 11; (with_reducible refine SAX.out.mono ?_); rintro e w9 ⟨rfl, hb⟩; have HL := Lib.hid (HB3.out.trans (((below_drewN _ 1).trans hb).mono HB3.out.size)); clear hb)
       go_ret
       exact ⟨rfl, HL.out⟩
end Go.Proofs.YtmnigckpejcaeaaGreatDoor
