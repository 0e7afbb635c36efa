/-
  tesseralaw23.PatchChains: the walk. By an AI agent.
-/
import Derived.Test.YthipcepgbegaiaaDoorZLaw23
import Derived.Test.YthipcepgbegaiaaDoorZPatchW4
import Derived.Test.YthipcepgbegaiaaDoorZSets2
namespace Go.Proofs.YthipcepgbegaiaaDoor
open Go.RowKit
set_option maxRecDepth 100000

/-- what awake answers -/
def AwakeOK : Prop := ∀ (w : World), TabAt w → MaxAt w → Calls Tryd.prog 5 #[] w fun e w' => e = .returned (.bool true) ∧ Below w.heap.size w w'
theorem box_new2 {w : World} {x y : Value} {T : TypeId} : (w.alloc (.cells #[x, y] T)).cell? ⟨w.heap.size, 0, none⟩ = some x ∧ (w.alloc (.cells #[x, y] T)).cell? ⟨w.heap.size, 1, none⟩ = some y := ⟨by rw [World.cell?_alloc_new]; rfl, by rw [World.cell?_alloc_new]; rfl⟩
theorem kept2 {V u : World} {g : Nat} {x y : Value} (h : V.cell? ⟨g, 0, none⟩ = some x ∧ V.cell? ⟨g, 1, none⟩ = some y) (hb : Below V.heap.size V u) : u.cell? ⟨g, 0, none⟩ = some x ∧ u.cell? ⟨g, 1, none⟩ = some y := by
  have hz := World.block_lt_of_cell? _ _ h.1
  exact ⟨(hb.cell (p := ⟨g, 0, none⟩) hz).trans h.1, (hb.cell (p := ⟨g, 1, none⟩) hz).trans h.2⟩
theorem neat_minus {a b : List QuadL} (ha : Neat a) (fa : Rise a) (fb : Rise b) : Neat (minusS a b) := ⟨ha.minusS, fun q hq => ha.2 q ((mem_minus fa fb q).1 hq).1⟩
theorem fine_of {l : List QuadL} (h : (validF l).2 = 0) : Fine l := (validF_ok l).1 h
theorem validAll_4 {a b c d : List QuadL} (h : validAll [a, b, c, d] = 0) : Fine a ∧ Fine b ∧ Fine c ∧ Fine d := by
  unfold validAll at h
  rw [firstN_zero] at h
  obtain ⟨h1, h⟩ := h
  unfold validAll at h
  rw [firstN_zero] at h
  obtain ⟨h2, h⟩ := h
  unfold validAll at h
  rw [firstN_zero] at h
  obtain ⟨h3, h⟩ := h
  rw [validAll_1] at h
  exact ⟨fine_of h1, fine_of h2, fine_of h3, fine_of h⟩
theorem lawValid4_l (a b c d : List QuadL) (v0 v1 v2 v3 : Value) (g : Nat) (w : World) (hT : TabAt w) (hM : MaxAt w) (c0 : w.cell? ⟨g, 0, none⟩ = some v0) (c1 : w.cell? ⟨g, 1, none⟩ = some v1) (c2 : w.cell? ⟨g, 2, none⟩ = some v2) (c3 : w.cell? ⟨g, 3, none⟩ = some v3)
    (h0 : QView w v0 a) (h1 : QView w v1 b) (h2 : QView w v2 c) (h3 : QView w v3 d) (n0 : Neat a) (n1 : Neat b) (n2 : Neat c) (n3 : Neat d) :
    Calls Tryd.prog 6 #[.slice (some ⟨g, 0, none⟩) 4 4] w fun e w' => e = .returned (.bool (validAll [a, b, c, d] == 0)) ∧ Below w.heap.size w w' :=
  lawValid_l [a, b, c, d] [v0, v1, v2, v3] g w hT hM rfl (fun i h => match i, h with | 0, _ => c0 | 1, _ => c1 | 2, _ => c2 | 3, _ => c3) (fun i h => match i, h with | 0, _ => h0 | 1, _ => h1 | 2, _ => h2 | 3, _ => h3)
    (fun x hx => by
      rcases List.mem_cons.1 hx with rfl | hx
      · exact n0
      rcases List.mem_cons.1 hx with rfl | hx
      · exact n1
      rcases List.mem_cons.1 hx with rfl | hx
      · exact n2
      obtain rfl : x = d := by simpa using hx
      exact n3) (by simp)

set_option maxHeartbeats 8000000 in
theorem chains_walk (AK : AwakeOK) (a b c d : List QuadL) (v0 v1 v2 v3 : Value) (w : World) (hT : TabAt w) (hM : MaxAt w) (h0 : QView w v0 a) (h1 : QView w v1 b) (h2 : QView w v2 c) (h3 : QView w v3 d) (n0 : Neat a) (n1 : Neat b) (n2 : Neat c) (n3 : Neat d)
    (hl : a.length + b.length + c.length + d.length ≤ 100000) :
    Calls Tryd.prog 3 #[v0, v1, v2, v3] w fun e w' => e = .returned (.bool true) ∧ Below w.heap.size w w' := by
  have AW := Lib.hid (AK w hT hM)
  have VA := Lib.hid (fun (g : Nat) (u : World) (hb : Below w.heap.size w u) (c0 : u.cell? ⟨g, 0, none⟩ = some v0) (c1 : u.cell? ⟨g, 1, none⟩ = some v1) (c2 : u.cell? ⟨g, 2, none⟩ = some v2) (c3 : u.cell? ⟨g, 3, none⟩ = some v3) => lawValid4_l a b c d v0 v1 v2 v3 g u (hT.below hb) (hM.below hb) c0 c1 c2 c3 (h0.below hb) (h1.below hb) (h2.below hb) (h3.below hb) n0 n1 n2 n3)
  have F0 := Lib.hid (fun (u : World) (hb : Below w.heap.size w u) => And.intro (hT.below hb) (And.intro (hM.below hb) (And.intro (h0.below hb) (And.intro (h1.below hb) (And.intro (h2.below hb) (h3.below hb))))))
  have NN := Lib.hid (And.intro n0 (And.intro n1 (And.intro n2 n3)))
  obtain ⟨pa, ca, rfl⟩ := h0.form
  obtain ⟨pb, cb, rfl⟩ := h1.form
  obtain ⟨pc, cc, rfl⟩ := h2.form
  obtain ⟨pd, cd, rfl⟩ := h3.form
  have la : a.length ≤ 100000 := by omega
  have lb : b.length ≤ 100000 := by omega
  have lc : c.length ≤ 100000 := by omega
  have ld : d.length ≤ 100000 := by omega
  have tS : decide ((524288 : Int) < (a.length : Int) + (b.length : Int) + (c.length : Int) + (d.length : Int)) = false := decide_eq_false (by omega)
  clear AK hT hM h0 h1 h2 h3 n0 n1 n2 n3 hl
  cases hv : (validAll [a, b, c, d] == 0) with
  | false =>
    rw [hv] at VA
    clear hv
    as_aux_lemma =>
      go_enter Tryd.func3, Tryd.ntmps3
      go_wp2_with (first | (go_at_call 5; (with_reducible refine AW.out.mono ?_); rintro e u0 ⟨rfl, hb⟩; have HA := Lib.hid hb; clear hb) | (go_at_call 6; (with_reducible refine (VA.out _ _ ?hv ?c0 ?c1 ?c2 ?c3).mono ?_); (case hv => exact HA.out.alloc HA.out.size _); (case c0 => go_simp); (case c1 => go_simp); (case c2 => go_simp); (case c3 => go_simp); rintro e u1 ⟨rfl, hb⟩; have HB := Lib.hid (HA.out.trans ((alloc_trans hb).mono HA.out.size)); clear hb))
      go_ret
      exact ⟨rfl, HB.out⟩
  | true =>
    rw [hv] at VA
    obtain ⟨fa, fb, fc, fd⟩ := validAll_4 (beq_iff_eq.1 hv)
    clear hv
    have D1 := Lib.hid (fun (u : World) (hb : Below w.heap.size w u) => patchDiff_l set_ok a b (.slice pa a.length ca) (.slice pb b.length cb) u (F0.out u hb).1 (F0.out u hb).2.1 (F0.out u hb).2.2.1 (F0.out u hb).2.2.2.1 NN.out.1 NN.out.2.1)
    rw [diffN_ok fa fb] at D1
    have D2 := Lib.hid (fun (u : World) (hb : Below w.heap.size w u) => patchDiff_l set_ok b c (.slice pb b.length cb) (.slice pc c.length cc) u (F0.out u hb).1 (F0.out u hb).2.1 (F0.out u hb).2.2.2.1 (F0.out u hb).2.2.2.2.1 NN.out.2.1 NN.out.2.2.1)
    rw [diffN_ok fb fc] at D2
    have D3 := Lib.hid (fun (u : World) (hb : Below w.heap.size w u) => patchDiff_l set_ok c d (.slice pc c.length cc) (.slice pd d.length cd) u (F0.out u hb).1 (F0.out u hb).2.1 (F0.out u hb).2.2.2.2.1 (F0.out u hb).2.2.2.2.2 NN.out.2.2.1 NN.out.2.2.2)
    rw [diffN_ok fc fd] at D3
    have C1 := Lib.hid (fun (m1 p1 m2 p2 : Value) (u : World) (hb : Below w.heap.size w u) (k1 : PView u m1 p1 ⟨minusS a b, minusS b a⟩) (k2 : PView u m2 p2 ⟨minusS b c, minusS c b⟩) => patchCompose_l set_ok ⟨minusS a b, minusS b a⟩ ⟨minusS b c, minusS c b⟩ m1 p1 m2 p2 u (F0.out u hb).1 (F0.out u hb).2.1 k1 k2 ⟨neat_minus NN.out.1 fa.rise fb.rise, neat_minus NN.out.2.1 fb.rise fa.rise⟩ ⟨neat_minus NN.out.2.1 fb.rise fc.rise, neat_minus NN.out.2.2.1 fc.rise fb.rise⟩)
    rw [compose_diff fa fb fc] at C1
    have C2 := Lib.hid (fun (m1 p1 m2 p2 : Value) (u : World) (hb : Below w.heap.size w u) (k1 : PView u m1 p1 ⟨minusS b c, minusS c b⟩) (k2 : PView u m2 p2 ⟨minusS c d, minusS d c⟩) => patchCompose_l set_ok ⟨minusS b c, minusS c b⟩ ⟨minusS c d, minusS d c⟩ m1 p1 m2 p2 u (F0.out u hb).1 (F0.out u hb).2.1 k1 k2 ⟨neat_minus NN.out.2.1 fb.rise fc.rise, neat_minus NN.out.2.2.1 fc.rise fb.rise⟩ ⟨neat_minus NN.out.2.2.1 fc.rise fd.rise, neat_minus NN.out.2.2.2 fd.rise fc.rise⟩)
    rw [compose_diff fb fc fd] at C2
    have C3 := Lib.hid (fun (m1 p1 m2 p2 : Value) (u : World) (hb : Below w.heap.size w u) (k1 : PView u m1 p1 ⟨minusS a c, minusS c a⟩) (k2 : PView u m2 p2 ⟨minusS c d, minusS d c⟩) => patchCompose_l set_ok ⟨minusS a c, minusS c a⟩ ⟨minusS c d, minusS d c⟩ m1 p1 m2 p2 u (F0.out u hb).1 (F0.out u hb).2.1 k1 k2 ⟨neat_minus NN.out.1 fa.rise fc.rise, neat_minus NN.out.2.2.1 fc.rise fa.rise⟩ ⟨neat_minus NN.out.2.2.1 fc.rise fd.rise, neat_minus NN.out.2.2.2 fd.rise fc.rise⟩)
    rw [compose_diff fa fc fd] at C3
    have C4 := Lib.hid (fun (m1 p1 m2 p2 : Value) (u : World) (hb : Below w.heap.size w u) (k1 : PView u m1 p1 ⟨minusS a b, minusS b a⟩) (k2 : PView u m2 p2 ⟨minusS b d, minusS d b⟩) => patchCompose_l set_ok ⟨minusS a b, minusS b a⟩ ⟨minusS b d, minusS d b⟩ m1 p1 m2 p2 u (F0.out u hb).1 (F0.out u hb).2.1 k1 k2 ⟨neat_minus NN.out.1 fa.rise fb.rise, neat_minus NN.out.2.1 fb.rise fa.rise⟩ ⟨neat_minus NN.out.2.1 fb.rise fd.rise, neat_minus NN.out.2.2.2 fd.rise fb.rise⟩)
    rw [compose_diff fa fb fd] at C4
    have A1 := Lib.hid (fun (m p : Value) (u : World) (hb : Below w.heap.size w u) (k : PView u m p ⟨minusS a c, minusS c a⟩) => apply_l set_ok a (.slice pa a.length ca) ⟨minusS a c, minusS c a⟩ m p u (F0.out u hb).1 (F0.out u hb).2.1 (F0.out u hb).2.2.1 k NN.out.1 ⟨neat_minus NN.out.1 fa.rise fc.rise, neat_minus NN.out.2.2.1 fc.rise fa.rise⟩)
    rw [apply_diff fa fc] at A1
    have A2 := Lib.hid (fun (m p : Value) (u : World) (hb : Below w.heap.size w u) (k : PView u m p ⟨minusS b d, minusS d b⟩) => apply_l set_ok b (.slice pb b.length cb) ⟨minusS b d, minusS d b⟩ m p u (F0.out u hb).1 (F0.out u hb).2.1 (F0.out u hb).2.2.2.1 k NN.out.2.1 ⟨neat_minus NN.out.2.1 fb.rise fd.rise, neat_minus NN.out.2.2.2 fd.rise fb.rise⟩)
    rw [apply_diff fb fd] at A2
    have A3 := Lib.hid (fun (m p : Value) (u : World) (hb : Below w.heap.size w u) (k : PView u m p ⟨minusS a d, minusS d a⟩) => apply_l set_ok a (.slice pa a.length ca) ⟨minusS a d, minusS d a⟩ m p u (F0.out u hb).1 (F0.out u hb).2.1 (F0.out u hb).2.2.1 k NN.out.1 ⟨neat_minus NN.out.1 fa.rise fd.rise, neat_minus NN.out.2.2.2 fd.rise fa.rise⟩)
    rw [apply_diff fa fd] at A3
    have SC := Lib.hid (fun (x y : Value) (u : World) (k1 : QView u x c) (k2 : QView u y c) => sameQuads_t c x y u k1 k2 (by omega))
    have SD := Lib.hid (fun (x y : Value) (u : World) (k1 : QView u x d) (k2 : QView u y d) => sameQuads_t d x y u k1 k2 (by omega))
    have SP := Lib.hid (fun (m1 p1 m2 p2 : Value) (u : World) (k1 : PView u m1 p1 ⟨minusS a d, minusS d a⟩) (k2 : PView u m2 p2 ⟨minusS a d, minusS d a⟩) => same_t ⟨minusS a d, minusS d a⟩ m1 p1 m2 p2 u k1 k2 (Nat.le_trans (minusS_len a d) (by omega)) (Nat.le_trans (minusS_len d a) (by omega)))
    clear fa fb fc fd
    go_enter Tryd.func3, Tryd.ntmps3
    go_upto_region 5 with (first | (go_at_call 5; (with_reducible refine AW.out.mono ?_); rintro e u0 ⟨rfl, hb⟩; have HA := Lib.hid hb; clear hb) | (go_at_call 6; (with_reducible refine (VA.out _ _ ?hv ?c0 ?c1 ?c2 ?c3).mono ?_); (case hv => exact HA.out.alloc HA.out.size _); (case c0 => go_simp); (case c1 => go_simp); (case c2 => go_simp); (case c3 => go_simp); rintro e u1 ⟨rfl, hb⟩; have HB := Lib.hid (HA.out.trans ((alloc_trans hb).mono HA.out.size)); clear hb))
    clear AW VA
    go_upto_region 6 with (go_at_call 7; (with_reducible refine (D1.out _ HB.out).mono ?_); rintro e y1 ⟨mv, pv, rfl, hf, hb⟩; obtain ⟨map, mcp, rfl⟩ := hf.view.1.form; obtain ⟨pap, pcp, rfl⟩ := hf.view.2.form; have HF := Lib.hid hf.view; have HX := Lib.hid hb; clear hf hb)
    have HX2 : Hid (Below u1.heap.size u1 (y1.alloc (.cells #[.slice map (minusS a b).length mcp, .slice pap (minusS b a).length pcp] 26))) := Lib.hid (HX.out.alloc HX.out.size _)
    have Pp : Hid (PView (y1.alloc (.cells #[.slice map (minusS a b).length mcp, .slice pap (minusS b a).length pcp] 26)) (.slice map (minusS a b).length mcp) (.slice pap (minusS b a).length pcp) ⟨minusS a b, minusS b a⟩) := Lib.hid (HF.out.below ((Below.refl _ _).alloc (Nat.le_refl _) _))
    have Kp := Lib.hid (box_new2 (w := y1) (x := .slice map (minusS a b).length mcp) (y := .slice pap (minusS b a).length pcp) (T := 26))
    have HB_ := Lib.hid (HB.out.trans (HX2.out.mono HB.out.size))
    clear HB
    have HB := HB_
    clear HB_
    clear HX HX2 HF
    generalize hV1 : y1.alloc (.cells #[.slice map (minusS a b).length mcp, .slice pap (minusS b a).length pcp] 26) = V1 at HB Pp Kp ⊢
    clear hV1
    as_aux_lemma =>
      go_upto_region 7 with (go_at_call 7; (with_reducible refine (D2.out _ HB.out).mono ?_); rintro e y2 ⟨mv, pv, rfl, hf, hb⟩; obtain ⟨maq, mcq, rfl⟩ := hf.view.1.form; obtain ⟨paq, pcq, rfl⟩ := hf.view.2.form; have HF := Lib.hid hf.view; have HX := Lib.hid hb; clear hf hb)
      have HX2 : Hid (Below V1.heap.size V1 (y2.alloc (.cells #[.slice maq (minusS b c).length mcq, .slice paq (minusS c b).length pcq] 26))) := Lib.hid (HX.out.alloc HX.out.size _)
      have Pq : Hid (PView (y2.alloc (.cells #[.slice maq (minusS b c).length mcq, .slice paq (minusS c b).length pcq] 26)) (.slice maq (minusS b c).length mcq) (.slice paq (minusS c b).length pcq) ⟨minusS b c, minusS c b⟩) := Lib.hid (HF.out.below ((Below.refl _ _).alloc (Nat.le_refl _) _))
      have Kq := Lib.hid (box_new2 (w := y2) (x := .slice maq (minusS b c).length mcq) (y := .slice paq (minusS c b).length pcq) (T := 26))
      have Pp_ := Lib.hid (PView.below Pp.out HX2.out)
      clear Pp
      have Pp := Pp_
      clear Pp_
      have Kp_ := Lib.hid (kept2 Kp.out HX2.out)
      clear Kp
      have Kp := Kp_
      clear Kp_
      have HB_ := Lib.hid (HB.out.trans (HX2.out.mono HB.out.size))
      clear HB
      have HB := HB_
      clear HB_
      clear HX HX2 HF
      generalize hV2 : y2.alloc (.cells #[.slice maq (minusS b c).length mcq, .slice paq (minusS c b).length pcq] 26) = V2 at HB Pp Kp Pq Kq ⊢
      clear hV2
      as_aux_lemma =>
        go_upto_region 8 with (go_at_call 7; (with_reducible refine (D3.out _ HB.out).mono ?_); rintro e y3 ⟨mv, pv, rfl, hf, hb⟩; obtain ⟨mar, mcr, rfl⟩ := hf.view.1.form; obtain ⟨par, pcr, rfl⟩ := hf.view.2.form; have HF := Lib.hid hf.view; have HX := Lib.hid hb; clear hf hb)
        have HX2 : Hid (Below V2.heap.size V2 (y3.alloc (.cells #[.slice mar (minusS c d).length mcr, .slice par (minusS d c).length pcr] 26))) := Lib.hid (HX.out.alloc HX.out.size _)
        have Pr : Hid (PView (y3.alloc (.cells #[.slice mar (minusS c d).length mcr, .slice par (minusS d c).length pcr] 26)) (.slice mar (minusS c d).length mcr) (.slice par (minusS d c).length pcr) ⟨minusS c d, minusS d c⟩) := Lib.hid (HF.out.below ((Below.refl _ _).alloc (Nat.le_refl _) _))
        have Kr := Lib.hid (box_new2 (w := y3) (x := .slice mar (minusS c d).length mcr) (y := .slice par (minusS d c).length pcr) (T := 26))
        have Pp_ := Lib.hid (PView.below Pp.out HX2.out)
        clear Pp
        have Pp := Pp_
        clear Pp_
        have Kp_ := Lib.hid (kept2 Kp.out HX2.out)
        clear Kp
        have Kp := Kp_
        clear Kp_
        have Pq_ := Lib.hid (PView.below Pq.out HX2.out)
        clear Pq
        have Pq := Pq_
        clear Pq_
        have Kq_ := Lib.hid (kept2 Kq.out HX2.out)
        clear Kq
        have Kq := Kq_
        clear Kq_
        have HB_ := Lib.hid (HB.out.trans (HX2.out.mono HB.out.size))
        clear HB
        have HB := HB_
        clear HB_
        clear HX HX2 HF
        generalize hV3 : y3.alloc (.cells #[.slice mar (minusS c d).length mcr, .slice par (minusS d c).length pcr] 26) = V3 at HB Pp Kp Pq Kq Pr Kr ⊢
        clear hV3
        as_aux_lemma =>
          obtain ⟨xp0, xp1⟩ := Kp.out
          obtain ⟨xq0, xq1⟩ := Kq.out
          go_upto_region 9 with (go_at_call 8; (with_reducible refine (C1.out _ _ _ _ _ HB.out Pp.out Pq.out).mono ?_); rintro e y4 ⟨mv, pv, rfl, hf, hb⟩; obtain ⟨mas, mcs, rfl⟩ := hf.view.1.form; obtain ⟨pas, pcs, rfl⟩ := hf.view.2.form; have HF := Lib.hid hf.view; have HX := Lib.hid hb; clear hf hb)
          clear xp0 xp1 xq0 xq1
          have HX2 : Hid (Below V3.heap.size V3 (y4.alloc (.cells #[.slice mas (minusS a c).length mcs, .slice pas (minusS c a).length pcs] 26))) := Lib.hid (HX.out.alloc HX.out.size _)
          have Ps : Hid (PView (y4.alloc (.cells #[.slice mas (minusS a c).length mcs, .slice pas (minusS c a).length pcs] 26)) (.slice mas (minusS a c).length mcs) (.slice pas (minusS c a).length pcs) ⟨minusS a c, minusS c a⟩) := Lib.hid (HF.out.below ((Below.refl _ _).alloc (Nat.le_refl _) _))
          have Ks := Lib.hid (box_new2 (w := y4) (x := .slice mas (minusS a c).length mcs) (y := .slice pas (minusS c a).length pcs) (T := 26))
          have Pp_ := Lib.hid (PView.below Pp.out HX2.out)
          clear Pp
          have Pp := Pp_
          clear Pp_
          have Kp_ := Lib.hid (kept2 Kp.out HX2.out)
          clear Kp
          have Kp := Kp_
          clear Kp_
          have Pq_ := Lib.hid (PView.below Pq.out HX2.out)
          clear Pq
          have Pq := Pq_
          clear Pq_
          have Kq_ := Lib.hid (kept2 Kq.out HX2.out)
          clear Kq
          have Kq := Kq_
          clear Kq_
          have Pr_ := Lib.hid (PView.below Pr.out HX2.out)
          clear Pr
          have Pr := Pr_
          clear Pr_
          have Kr_ := Lib.hid (kept2 Kr.out HX2.out)
          clear Kr
          have Kr := Kr_
          clear Kr_
          have HB_ := Lib.hid (HB.out.trans (HX2.out.mono HB.out.size))
          clear HB
          have HB := HB_
          clear HB_
          clear HX HX2 HF
          generalize hV4 : y4.alloc (.cells #[.slice mas (minusS a c).length mcs, .slice pas (minusS c a).length pcs] 26) = V4 at HB Pp Kp Pq Kq Pr Kr Ps Ks ⊢
          clear hV4
          as_aux_lemma =>
            obtain ⟨xq0, xq1⟩ := Kq.out
            obtain ⟨xr0, xr1⟩ := Kr.out
            go_upto_region 10 with (go_at_call 8; (with_reducible refine (C2.out _ _ _ _ _ HB.out Pq.out Pr.out).mono ?_); rintro e y5 ⟨mv, pv, rfl, hf, hb⟩; obtain ⟨mat, mct, rfl⟩ := hf.view.1.form; obtain ⟨pat, pct, rfl⟩ := hf.view.2.form; have HF := Lib.hid hf.view; have HX := Lib.hid hb; clear hf hb)
            clear xq0 xq1 xr0 xr1
            have HX2 : Hid (Below V4.heap.size V4 (y5.alloc (.cells #[.slice mat (minusS b d).length mct, .slice pat (minusS d b).length pct] 26))) := Lib.hid (HX.out.alloc HX.out.size _)
            have Pt : Hid (PView (y5.alloc (.cells #[.slice mat (minusS b d).length mct, .slice pat (minusS d b).length pct] 26)) (.slice mat (minusS b d).length mct) (.slice pat (minusS d b).length pct) ⟨minusS b d, minusS d b⟩) := Lib.hid (HF.out.below ((Below.refl _ _).alloc (Nat.le_refl _) _))
            have Kt := Lib.hid (box_new2 (w := y5) (x := .slice mat (minusS b d).length mct) (y := .slice pat (minusS d b).length pct) (T := 26))
            have Pp_ := Lib.hid (PView.below Pp.out HX2.out)
            clear Pp
            have Pp := Pp_
            clear Pp_
            have Kp_ := Lib.hid (kept2 Kp.out HX2.out)
            clear Kp
            have Kp := Kp_
            clear Kp_
            have Pq_ := Lib.hid (PView.below Pq.out HX2.out)
            clear Pq
            have Pq := Pq_
            clear Pq_
            have Kq_ := Lib.hid (kept2 Kq.out HX2.out)
            clear Kq
            have Kq := Kq_
            clear Kq_
            have Pr_ := Lib.hid (PView.below Pr.out HX2.out)
            clear Pr
            have Pr := Pr_
            clear Pr_
            have Kr_ := Lib.hid (kept2 Kr.out HX2.out)
            clear Kr
            have Kr := Kr_
            clear Kr_
            have Ps_ := Lib.hid (PView.below Ps.out HX2.out)
            clear Ps
            have Ps := Ps_
            clear Ps_
            have Ks_ := Lib.hid (kept2 Ks.out HX2.out)
            clear Ks
            have Ks := Ks_
            clear Ks_
            have HB_ := Lib.hid (HB.out.trans (HX2.out.mono HB.out.size))
            clear HB
            have HB := HB_
            clear HB_
            clear HX HX2 HF
            generalize hV5 : y5.alloc (.cells #[.slice mat (minusS b d).length mct, .slice pat (minusS d b).length pct] 26) = V5 at HB Pp Kp Pq Kq Pr Kr Ps Ks Pt Kt ⊢
            clear hV5
            as_aux_lemma =>
              go_upto_region 12 with fail
              obtain ⟨xs0, xs1⟩ := Ks.out
              go_upto_region 13 with (go_at_call 9; (with_reducible refine (A1.out _ _ _ HB.out Ps.out).mono ?_); rintro e y6 ⟨vv, rfl, ho, hb⟩; obtain ⟨lal, lcl, rfl⟩ := ho.view.form; have Ll := Lib.hid ho.view; have HX := Lib.hid hb; clear ho hb)
              clear xs0 xs1
              have Pp_ := Lib.hid (PView.below Pp.out HX.out)
              clear Pp
              have Pp := Pp_
              clear Pp_
              have Kp_ := Lib.hid (kept2 Kp.out HX.out)
              clear Kp
              have Kp := Kp_
              clear Kp_
              have Pq_ := Lib.hid (PView.below Pq.out HX.out)
              clear Pq
              have Pq := Pq_
              clear Pq_
              have Kq_ := Lib.hid (kept2 Kq.out HX.out)
              clear Kq
              have Kq := Kq_
              clear Kq_
              have Pr_ := Lib.hid (PView.below Pr.out HX.out)
              clear Pr
              have Pr := Pr_
              clear Pr_
              have Kr_ := Lib.hid (kept2 Kr.out HX.out)
              clear Kr
              have Kr := Kr_
              clear Kr_
              have Ps_ := Lib.hid (PView.below Ps.out HX.out)
              clear Ps
              have Ps := Ps_
              clear Ps_
              have Ks_ := Lib.hid (kept2 Ks.out HX.out)
              clear Ks
              have Ks := Ks_
              clear Ks_
              have Pt_ := Lib.hid (PView.below Pt.out HX.out)
              clear Pt
              have Pt := Pt_
              clear Pt_
              have Kt_ := Lib.hid (kept2 Kt.out HX.out)
              clear Kt
              have Kt := Kt_
              clear Kt_
              have HB_ := Lib.hid (HB.out.trans (HX.out.mono HB.out.size))
              clear HB
              have HB := HB_
              clear HB_ HX
              as_aux_lemma =>
                obtain ⟨xt0, xt1⟩ := Kt.out
                go_upto_region 14 with (go_at_call 9; (with_reducible refine (A2.out _ _ _ HB.out Pt.out).mono ?_); rintro e y7 ⟨vv, rfl, ho, hb⟩; obtain ⟨lam, lcm, rfl⟩ := ho.view.form; have Lm := Lib.hid ho.view; have HX := Lib.hid hb; clear ho hb)
                clear xt0 xt1
                have Pp_ := Lib.hid (PView.below Pp.out HX.out)
                clear Pp
                have Pp := Pp_
                clear Pp_
                have Kp_ := Lib.hid (kept2 Kp.out HX.out)
                clear Kp
                have Kp := Kp_
                clear Kp_
                have Pq_ := Lib.hid (PView.below Pq.out HX.out)
                clear Pq
                have Pq := Pq_
                clear Pq_
                have Kq_ := Lib.hid (kept2 Kq.out HX.out)
                clear Kq
                have Kq := Kq_
                clear Kq_
                have Pr_ := Lib.hid (PView.below Pr.out HX.out)
                clear Pr
                have Pr := Pr_
                clear Pr_
                have Kr_ := Lib.hid (kept2 Kr.out HX.out)
                clear Kr
                have Kr := Kr_
                clear Kr_
                have Ps_ := Lib.hid (PView.below Ps.out HX.out)
                clear Ps
                have Ps := Ps_
                clear Ps_
                have Ks_ := Lib.hid (kept2 Ks.out HX.out)
                clear Ks
                have Ks := Ks_
                clear Ks_
                have Pt_ := Lib.hid (PView.below Pt.out HX.out)
                clear Pt
                have Pt := Pt_
                clear Pt_
                have Kt_ := Lib.hid (kept2 Kt.out HX.out)
                clear Kt
                have Kt := Kt_
                clear Kt_
                have Ll_ := Lib.hid (QView.below Ll.out HX.out)
                clear Ll
                have Ll := Ll_
                clear Ll_
                have HB_ := Lib.hid (HB.out.trans (HX.out.mono HB.out.size))
                clear HB
                have HB := HB_
                clear HB_ HX
                as_aux_lemma =>
                  go_upto_region 16 with (first | (go_at_call 10; (with_reducible refine (SC.out _ _ _ Ll.out (F0.out _ HB.out).2.2.2.2.1).mono ?_); rintro e z1 ⟨rfl, hb⟩; have HX := Lib.hid hb; clear hb SC) | (go_at_call 10; (with_reducible refine (SD.out _ _ _ (Lm.out.below HX.out) (F0.out _ (HB.out.trans (HX.out.mono HB.out.size))).2.2.2.2.2).mono ?_); rintro e z2 ⟨rfl, hb⟩; have HX2 := Lib.hid (HX.out.trans (hb.mono HX.out.size)); clear hb))
                  clear Ll Lm
                  have Pp_ := Lib.hid (PView.below Pp.out HX2.out)
                  clear Pp
                  have Pp := Pp_
                  clear Pp_
                  have Kp_ := Lib.hid (kept2 Kp.out HX2.out)
                  clear Kp
                  have Kp := Kp_
                  clear Kp_
                  have Pq_ := Lib.hid (PView.below Pq.out HX2.out)
                  clear Pq
                  have Pq := Pq_
                  clear Pq_
                  have Kq_ := Lib.hid (kept2 Kq.out HX2.out)
                  clear Kq
                  have Kq := Kq_
                  clear Kq_
                  have Pr_ := Lib.hid (PView.below Pr.out HX2.out)
                  clear Pr
                  have Pr := Pr_
                  clear Pr_
                  have Kr_ := Lib.hid (kept2 Kr.out HX2.out)
                  clear Kr
                  have Kr := Kr_
                  clear Kr_
                  have Ps_ := Lib.hid (PView.below Ps.out HX2.out)
                  clear Ps
                  have Ps := Ps_
                  clear Ps_
                  have Ks_ := Lib.hid (kept2 Ks.out HX2.out)
                  clear Ks
                  have Ks := Ks_
                  clear Ks_
                  have Pt_ := Lib.hid (PView.below Pt.out HX2.out)
                  clear Pt
                  have Pt := Pt_
                  clear Pt_
                  have Kt_ := Lib.hid (kept2 Kt.out HX2.out)
                  clear Kt
                  have Kt := Kt_
                  clear Kt_
                  have HB_ := Lib.hid (HB.out.trans (HX2.out.mono HB.out.size))
                  clear HB
                  have HB := HB_
                  clear HB_ HX HX2
                  as_aux_lemma =>
                    obtain ⟨xs0, xs1⟩ := Ks.out
                    obtain ⟨xr0, xr1⟩ := Kr.out
                    go_upto_region 17 with (go_at_call 8; (with_reducible refine (C3.out _ _ _ _ _ HB.out Ps.out Pr.out).mono ?_); rintro e y8 ⟨mv, pv, rfl, hf, hb⟩; obtain ⟨max, mcx, rfl⟩ := hf.view.1.form; obtain ⟨pax, pcx, rfl⟩ := hf.view.2.form; have HF := Lib.hid hf.view; have HX := Lib.hid hb; clear hf hb)
                    clear xs0 xs1 xr0 xr1
                    have HX2 : Hid (Below z2.heap.size z2 (y8.alloc (.cells #[.slice max (minusS a d).length mcx, .slice pax (minusS d a).length pcx] 26))) := Lib.hid (HX.out.alloc HX.out.size _)
                    have Px : Hid (PView (y8.alloc (.cells #[.slice max (minusS a d).length mcx, .slice pax (minusS d a).length pcx] 26)) (.slice max (minusS a d).length mcx) (.slice pax (minusS d a).length pcx) ⟨minusS a d, minusS d a⟩) := Lib.hid (HF.out.below ((Below.refl _ _).alloc (Nat.le_refl _) _))
                    have Kx := Lib.hid (box_new2 (w := y8) (x := .slice max (minusS a d).length mcx) (y := .slice pax (minusS d a).length pcx) (T := 26))
                    have Pp_ := Lib.hid (PView.below Pp.out HX2.out)
                    clear Pp
                    have Pp := Pp_
                    clear Pp_
                    have Kp_ := Lib.hid (kept2 Kp.out HX2.out)
                    clear Kp
                    have Kp := Kp_
                    clear Kp_
                    have Pq_ := Lib.hid (PView.below Pq.out HX2.out)
                    clear Pq
                    have Pq := Pq_
                    clear Pq_
                    have Kq_ := Lib.hid (kept2 Kq.out HX2.out)
                    clear Kq
                    have Kq := Kq_
                    clear Kq_
                    have Pr_ := Lib.hid (PView.below Pr.out HX2.out)
                    clear Pr
                    have Pr := Pr_
                    clear Pr_
                    have Kr_ := Lib.hid (kept2 Kr.out HX2.out)
                    clear Kr
                    have Kr := Kr_
                    clear Kr_
                    have Ps_ := Lib.hid (PView.below Ps.out HX2.out)
                    clear Ps
                    have Ps := Ps_
                    clear Ps_
                    have Ks_ := Lib.hid (kept2 Ks.out HX2.out)
                    clear Ks
                    have Ks := Ks_
                    clear Ks_
                    have Pt_ := Lib.hid (PView.below Pt.out HX2.out)
                    clear Pt
                    have Pt := Pt_
                    clear Pt_
                    have Kt_ := Lib.hid (kept2 Kt.out HX2.out)
                    clear Kt
                    have Kt := Kt_
                    clear Kt_
                    have HB_ := Lib.hid (HB.out.trans (HX2.out.mono HB.out.size))
                    clear HB
                    have HB := HB_
                    clear HB_
                    clear HX HX2 HF
                    generalize hV8 : y8.alloc (.cells #[.slice max (minusS a d).length mcx, .slice pax (minusS d a).length pcx] 26) = V8 at HB Pp Kp Pq Kq Pr Kr Ps Ks Pt Kt Px Kx ⊢
                    clear hV8
                    as_aux_lemma =>
                      obtain ⟨xp0, xp1⟩ := Kp.out
                      obtain ⟨xt0, xt1⟩ := Kt.out
                      go_upto_region 18 with (go_at_call 8; (with_reducible refine (C4.out _ _ _ _ _ HB.out Pp.out Pt.out).mono ?_); rintro e y9 ⟨mv, pv, rfl, hf, hb⟩; obtain ⟨may, mcy, rfl⟩ := hf.view.1.form; obtain ⟨pay, pcy, rfl⟩ := hf.view.2.form; have HF := Lib.hid hf.view; have HX := Lib.hid hb; clear hf hb)
                      clear xp0 xp1 xt0 xt1
                      have HX2 : Hid (Below V8.heap.size V8 (y9.alloc (.cells #[.slice may (minusS a d).length mcy, .slice pay (minusS d a).length pcy] 26))) := Lib.hid (HX.out.alloc HX.out.size _)
                      have Py : Hid (PView (y9.alloc (.cells #[.slice may (minusS a d).length mcy, .slice pay (minusS d a).length pcy] 26)) (.slice may (minusS a d).length mcy) (.slice pay (minusS d a).length pcy) ⟨minusS a d, minusS d a⟩) := Lib.hid (HF.out.below ((Below.refl _ _).alloc (Nat.le_refl _) _))
                      have Ky := Lib.hid (box_new2 (w := y9) (x := .slice may (minusS a d).length mcy) (y := .slice pay (minusS d a).length pcy) (T := 26))
                      have Pp_ := Lib.hid (PView.below Pp.out HX2.out)
                      clear Pp
                      have Pp := Pp_
                      clear Pp_
                      have Kp_ := Lib.hid (kept2 Kp.out HX2.out)
                      clear Kp
                      have Kp := Kp_
                      clear Kp_
                      have Pq_ := Lib.hid (PView.below Pq.out HX2.out)
                      clear Pq
                      have Pq := Pq_
                      clear Pq_
                      have Kq_ := Lib.hid (kept2 Kq.out HX2.out)
                      clear Kq
                      have Kq := Kq_
                      clear Kq_
                      have Pr_ := Lib.hid (PView.below Pr.out HX2.out)
                      clear Pr
                      have Pr := Pr_
                      clear Pr_
                      have Kr_ := Lib.hid (kept2 Kr.out HX2.out)
                      clear Kr
                      have Kr := Kr_
                      clear Kr_
                      have Ps_ := Lib.hid (PView.below Ps.out HX2.out)
                      clear Ps
                      have Ps := Ps_
                      clear Ps_
                      have Ks_ := Lib.hid (kept2 Ks.out HX2.out)
                      clear Ks
                      have Ks := Ks_
                      clear Ks_
                      have Pt_ := Lib.hid (PView.below Pt.out HX2.out)
                      clear Pt
                      have Pt := Pt_
                      clear Pt_
                      have Kt_ := Lib.hid (kept2 Kt.out HX2.out)
                      clear Kt
                      have Kt := Kt_
                      clear Kt_
                      have Px_ := Lib.hid (PView.below Px.out HX2.out)
                      clear Px
                      have Px := Px_
                      clear Px_
                      have Kx_ := Lib.hid (kept2 Kx.out HX2.out)
                      clear Kx
                      have Kx := Kx_
                      clear Kx_
                      have HB_ := Lib.hid (HB.out.trans (HX2.out.mono HB.out.size))
                      clear HB
                      have HB := HB_
                      clear HB_
                      clear HX HX2 HF
                      generalize hV9 : y9.alloc (.cells #[.slice may (minusS a d).length mcy, .slice pay (minusS d a).length pcy] 26) = V9 at HB Pp Kp Pq Kq Pr Kr Ps Ks Pt Kt Px Kx Py Ky ⊢
                      clear hV9
                      as_aux_lemma =>
                        obtain ⟨xx0, xx1⟩ := Kx.out
                        go_upto_region 19 with (go_at_call 9; (with_reducible refine (A3.out _ _ _ HB.out Px.out).mono ?_); rintro e y10 ⟨vv, rfl, ho, hb⟩; obtain ⟨lan, lcn, rfl⟩ := ho.view.form; have Ln := Lib.hid ho.view; have HX := Lib.hid hb; clear ho hb)
                        clear xx0 xx1
                        have Pp_ := Lib.hid (PView.below Pp.out HX.out)
                        clear Pp
                        have Pp := Pp_
                        clear Pp_
                        have Kp_ := Lib.hid (kept2 Kp.out HX.out)
                        clear Kp
                        have Kp := Kp_
                        clear Kp_
                        have Pq_ := Lib.hid (PView.below Pq.out HX.out)
                        clear Pq
                        have Pq := Pq_
                        clear Pq_
                        have Kq_ := Lib.hid (kept2 Kq.out HX.out)
                        clear Kq
                        have Kq := Kq_
                        clear Kq_
                        have Pr_ := Lib.hid (PView.below Pr.out HX.out)
                        clear Pr
                        have Pr := Pr_
                        clear Pr_
                        have Kr_ := Lib.hid (kept2 Kr.out HX.out)
                        clear Kr
                        have Kr := Kr_
                        clear Kr_
                        have Ps_ := Lib.hid (PView.below Ps.out HX.out)
                        clear Ps
                        have Ps := Ps_
                        clear Ps_
                        have Ks_ := Lib.hid (kept2 Ks.out HX.out)
                        clear Ks
                        have Ks := Ks_
                        clear Ks_
                        have Pt_ := Lib.hid (PView.below Pt.out HX.out)
                        clear Pt
                        have Pt := Pt_
                        clear Pt_
                        have Kt_ := Lib.hid (kept2 Kt.out HX.out)
                        clear Kt
                        have Kt := Kt_
                        clear Kt_
                        have Px_ := Lib.hid (PView.below Px.out HX.out)
                        clear Px
                        have Px := Px_
                        clear Px_
                        have Kx_ := Lib.hid (kept2 Kx.out HX.out)
                        clear Kx
                        have Kx := Kx_
                        clear Kx_
                        have Py_ := Lib.hid (PView.below Py.out HX.out)
                        clear Py
                        have Py := Py_
                        clear Py_
                        have Ky_ := Lib.hid (kept2 Ky.out HX.out)
                        clear Ky
                        have Ky := Ky_
                        clear Ky_
                        have HB_ := Lib.hid (HB.out.trans (HX.out.mono HB.out.size))
                        clear HB
                        have HB := HB_
                        clear HB_ HX
                        as_aux_lemma =>
                          obtain ⟨xx0, xx1⟩ := Kx.out
                          obtain ⟨xy0, xy1⟩ := Ky.out
                          go_wp2_with (first | (go_at_call 11; (with_reducible refine (SP.out _ _ _ _ _ Px.out Py.out).mono ?_); rintro e z3 ⟨rfl, hb⟩; have HX := Lib.hid hb; clear hb) | (go_at_call 10; (with_reducible refine (SD.out _ _ _ (Ln.out.below HX.out) (F0.out _ (HB.out.trans (HX.out.mono HB.out.size))).2.2.2.2.2).mono ?_); rintro e z4 ⟨rfl, hb⟩; have HX2 := Lib.hid (HX.out.trans (hb.mono HX.out.size)); clear hb))
                          go_ret
                          exact ⟨rfl, HB.out.trans (HX2.out.mono HB.out.size)⟩
end Go.Proofs.YthipcepgbegaiaaDoor
