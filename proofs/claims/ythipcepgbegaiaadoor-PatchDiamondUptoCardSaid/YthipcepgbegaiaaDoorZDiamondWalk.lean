/-
  tesseralaw23.PatchDiamond: the walk. By an AI agent.
-/
import Derived.Test.YthipcepgbegaiaaDoorZMorePatchDiamond
import Derived.Test.YthipcepgbegaiaaDoorZChainsWalk
namespace Go.Proofs.YthipcepgbegaiaaDoor
open Go.RowKit
set_option maxRecDepth 100000

theorem validAll_3 {a b c : List QuadL} (h : validAll [a, b, c] = 0) : Fine a ∧ Fine b ∧ Fine c := by
  unfold validAll at h
  rw [firstN_zero] at h
  obtain ⟨h1, h⟩ := h
  unfold validAll at h
  rw [firstN_zero] at h
  obtain ⟨h2, h⟩ := h
  rw [validAll_1] at h
  exact ⟨fine_of h1, fine_of h2, fine_of h⟩
theorem lawValid3_l (a b c : List QuadL) (v0 v1 v2 : Value) (g : Nat) (w : World) (hT : TabAt w) (hM : MaxAt w) (c0 : w.cell? ⟨g, 0, none⟩ = some v0) (c1 : w.cell? ⟨g, 1, none⟩ = some v1) (c2 : w.cell? ⟨g, 2, none⟩ = some v2)
    (h0 : QView w v0 a) (h1 : QView w v1 b) (h2 : QView w v2 c) (n0 : Neat a) (n1 : Neat b) (n2 : Neat c) :
    Calls Tryd.prog 6 #[.slice (some ⟨g, 0, none⟩) 3 3] w fun e w' => e = .returned (.bool (validAll [a, b, c] == 0)) ∧ Below w.heap.size w w' :=
  lawValid_l [a, b, c] [v0, v1, v2] g w hT hM rfl (fun i h => match i, h with | 0, _ => c0 | 1, _ => c1 | 2, _ => c2) (fun i h => match i, h with | 0, _ => h0 | 1, _ => h1 | 2, _ => h2)
    (fun x hx => by
      rcases List.mem_cons.1 hx with rfl | hx
      · exact n0
      rcases List.mem_cons.1 hx with rfl | hx
      · exact n1
      obtain rfl : x = c := by simpa using hx
      exact n2) (by simp)
theorem twoE_ok {a b : List QuadL} (ha : Rise a) (hb : Rise b) : twoE a b = 0 := by unfold twoE; rw [both_rise ha hb]; rfl
theorem slots4 {w w' : World} {x y z u : Value} {T : TypeId} (h : Below (w.alloc (.cells #[x, y, z, u] T)).heap.size (w.alloc (.cells #[x, y, z, u] T)) w') :
    w'.cell? ⟨w.heap.size, 0, none⟩ = some x ∧ w'.cell? ⟨w.heap.size, 1, none⟩ = some y ∧ w'.cell? ⟨w.heap.size, 2, none⟩ = some z ∧ w'.cell? ⟨w.heap.size, 3, none⟩ = some u :=
  ⟨new_cell h 0 _ rfl, new_cell h 1 _ rfl, new_cell h 2 _ rfl, new_cell h 3 _ rfl⟩

set_option maxHeartbeats 8000000 in
theorem diamond_walk (AK : AwakeOK) (a b c : List QuadL) (v0 v1 v2 : Value) (w : World) (hT : TabAt w) (hM : MaxAt w) (h0 : QView w v0 a) (h1 : QView w v1 b) (h2 : QView w v2 c) (n0 : Neat a) (n1 : Neat b) (n2 : Neat c)
    (hl : a.length + b.length + c.length ≤ 100000) :
    Calls Tryd.prog 4 #[v0, v1, v2] w fun e w' => e = .returned (.bool true) ∧ Below w.heap.size w w' := by
  have AW := Lib.hid (AK w hT hM)
  have VA := Lib.hid (fun (g : Nat) (u : World) (hb : Below w.heap.size w u) (c0 : u.cell? ⟨g, 0, none⟩ = some v0) (c1 : u.cell? ⟨g, 1, none⟩ = some v1) (c2 : u.cell? ⟨g, 2, none⟩ = some v2) => lawValid3_l a b c v0 v1 v2 g u (hT.below hb) (hM.below hb) c0 c1 c2 (h0.below hb) (h1.below hb) (h2.below hb) n0 n1 n2)
  have F0 := Lib.hid (fun (u : World) (hb : Below w.heap.size w u) => And.intro (hT.below hb) (And.intro (hM.below hb) (And.intro (h0.below hb) (And.intro (h1.below hb) (h2.below hb)))))
  have NN := Lib.hid (And.intro n0 (And.intro n1 n2))
  obtain ⟨pa, ca, rfl⟩ := h0.form
  obtain ⟨pb, cb, rfl⟩ := h1.form
  obtain ⟨pc, cc, rfl⟩ := h2.form
  have la : a.length ≤ 100000 := by omega
  have lb : b.length ≤ 100000 := by omega
  have lc : c.length ≤ 100000 := by omega
  have tS : decide ((524288 : Int) < (a.length : Int) + (b.length : Int) + (c.length : Int)) = false := decide_eq_false (by omega)
  clear AK hT hM h0 h1 h2 n0 n1 n2 hl
  cases hv : (validAll [a, b, c] == 0) with
  | false =>
    rw [hv] at VA
    clear hv
    as_aux_lemma =>
      go_enter Tryd.func4, Tryd.ntmps4
      go_wp2_with (first | (go_at_call 5; (with_reducible refine AW.out.mono ?_); rintro e u0 ⟨rfl, hb⟩; have HA := Lib.hid hb; clear hb) | (go_at_call 6; (with_reducible refine (VA.out _ _ ?hv ?c0 ?c1 ?c2).mono ?_); (case hv => exact HA.out.alloc HA.out.size _); (case c0 => go_simp); (case c1 => go_simp); (case c2 => go_simp); rintro e u1 ⟨rfl, hb⟩; have HB := Lib.hid (HA.out.trans ((alloc_trans hb).mono HA.out.size)); clear hb))
      go_ret
      exact ⟨rfl, HB.out⟩
  | true =>
    rw [hv] at VA
    obtain ⟨fa, fb, fc⟩ := validAll_3 (beq_iff_eq.1 hv)
    clear hv
    have D1 := Lib.hid (fun (u : World) (hb : Below w.heap.size w u) => patchDiff_l set_ok a b (.slice pa a.length ca) (.slice pb b.length cb) u (F0.out u hb).1 (F0.out u hb).2.1 (F0.out u hb).2.2.1 (F0.out u hb).2.2.2.1 NN.out.1 NN.out.2.1)
    rw [diffN_ok fa fb] at D1
    have D2 := Lib.hid (fun (u : World) (hb : Below w.heap.size w u) => patchDiff_l set_ok a c (.slice pa a.length ca) (.slice pc c.length cc) u (F0.out u hb).1 (F0.out u hb).2.1 (F0.out u hb).2.2.1 (F0.out u hb).2.2.2.2 NN.out.1 NN.out.2.2)
    rw [diffN_ok fa fc] at D2
    have O1 := Lib.hid (fun (m1 p1 m2 p2 : Value) (u : World) (hb : Below w.heap.size w u) (k1 : PView u m1 p1 ⟨minusS a c, minusS c a⟩) (k2 : PView u m2 p2 ⟨minusS a b, minusS b a⟩) => patchOver_l set_ok ⟨minusS a c, minusS c a⟩ ⟨minusS a b, minusS b a⟩ m1 p1 m2 p2 u (F0.out u hb).1 (F0.out u hb).2.1 k1 k2 ⟨neat_minus NN.out.1 fa.rise fc.rise, neat_minus NN.out.2.2 fc.rise fa.rise⟩ ⟨neat_minus NN.out.1 fa.rise fb.rise, neat_minus NN.out.2.1 fb.rise fa.rise⟩)
    rw [over_diff fa fb fc] at O1
    have O2 := Lib.hid (fun (m1 p1 m2 p2 : Value) (u : World) (hb : Below w.heap.size w u) (k1 : PView u m1 p1 ⟨minusS a b, minusS b a⟩) (k2 : PView u m2 p2 ⟨minusS a c, minusS c a⟩) => patchOver_l set_ok ⟨minusS a b, minusS b a⟩ ⟨minusS a c, minusS c a⟩ m1 p1 m2 p2 u (F0.out u hb).1 (F0.out u hb).2.1 k1 k2 ⟨neat_minus NN.out.1 fa.rise fb.rise, neat_minus NN.out.2.1 fb.rise fa.rise⟩ ⟨neat_minus NN.out.1 fa.rise fc.rise, neat_minus NN.out.2.2 fc.rise fa.rise⟩)
    rw [over_diff fa fc fb] at O2
    have A1 := Lib.hid (fun (m p : Value) (u : World) (hb : Below w.heap.size w u) (k : PView u m p ⟨(minusS (minusS a c) (minusS a b)), (minusS (minusS c a) (minusS b a))⟩) => apply_l set_ok b (.slice pb b.length cb) ⟨(minusS (minusS a c) (minusS a b)), (minusS (minusS c a) (minusS b a))⟩ m p u (F0.out u hb).1 (F0.out u hb).2.1 (F0.out u hb).2.2.2.1 k NN.out.2.1 ⟨neat_minus (neat_minus NN.out.1 fa.rise fc.rise) (minus_rise fa.rise fc.rise) (minus_rise fa.rise fb.rise), neat_minus (neat_minus NN.out.2.2 fc.rise fa.rise) (minus_rise fc.rise fa.rise) (minus_rise fb.rise fa.rise)⟩)
    rw [diamond_apply fa fb fc (by omega)] at A1
    have A2 := Lib.hid (fun (m p : Value) (u : World) (hb : Below w.heap.size w u) (k : PView u m p ⟨(minusS (minusS a b) (minusS a c)), (minusS (minusS b a) (minusS c a))⟩) => apply_l set_ok c (.slice pc c.length cc) ⟨(minusS (minusS a b) (minusS a c)), (minusS (minusS b a) (minusS c a))⟩ m p u (F0.out u hb).1 (F0.out u hb).2.1 (F0.out u hb).2.2.2.2 k NN.out.2.2 ⟨neat_minus (neat_minus NN.out.1 fa.rise fb.rise) (minus_rise fa.rise fb.rise) (minus_rise fa.rise fc.rise), neat_minus (neat_minus NN.out.2.1 fb.rise fa.rise) (minus_rise fb.rise fa.rise) (minus_rise fc.rise fa.rise)⟩)
    rw [diamond_apply fa fc fb (by omega)] at A2
    rw [diamond_swap fa fc fb] at A2
    have hlen : (diamondS a b c).length ≤ 200000 := by
      have h1 := union_len (minus_rise fb.rise (minus_rise (minus_rise fa.rise fc.rise) (minus_rise fa.rise fb.rise))) (minus_rise (minus_rise fc.rise fa.rise) (minus_rise fb.rise fa.rise))
      have h2 := minusS_len b (minusS (minusS a c) (minusS a b))
      have h3 := minusS_len (minusS c a) (minusS b a)
      have h4 := minusS_len c a
      unfold diamondS
      omega
    have SL := Lib.hid (fun (x y : Value) (u : World) (k1 : QView u x (diamondS a b c)) (k2 : QView u y (diamondS a b c)) => sameQuads_t (diamondS a b c) x y u k1 k2 (by omega))
    have rd := diamond_rise fa fb fc
    have lab := minusS_len a b
    have lba := minusS_len b a
    have lac := minusS_len a c
    have lca := minusS_len c a
    have E1 := Lib.hid (fun (x y : Value) (u : World) (k1 : QView u x (diamondS a b c)) (k2 : QView u y (minusS a b)) => term_meet_l (diamondS a b c) (minusS a b) x y u k1 k2 (by omega) (by omega))
    have E2 := Lib.hid (fun (x y : Value) (u : World) (k1 : QView u x (diamondS a b c)) (k2 : QView u y (minusS b a)) => term_meet_l (diamondS a b c) (minusS b a) x y u k1 k2 (by omega) (by omega))
    have E3 := Lib.hid (fun (x y : Value) (u : World) (k1 : QView u x (diamondS a b c)) (k2 : QView u y (minusS a c)) => term_meet_l (diamondS a b c) (minusS a c) x y u k1 k2 (by omega) (by omega))
    have E4 := Lib.hid (fun (x y : Value) (u : World) (k1 : QView u x (diamondS a b c)) (k2 : QView u y (minusS c a)) => term_meet_l (diamondS a b c) (minusS c a) x y u k1 k2 (by omega) (by omega))
    rw [twoE_ok rd (minus_rise fa.rise fb.rise), (diamond_out fa fb fc).1] at E1
    rw [twoE_ok rd (minus_rise fb.rise fa.rise), (diamond_in fa fb fc).1] at E2
    rw [twoE_ok rd (minus_rise fa.rise fc.rise), (diamond_out fa fb fc).2] at E3
    rw [twoE_ok rd (minus_rise fc.rise fa.rise), (diamond_in fa fb fc).2] at E4
    generalize diamondS a b c = dd at *
    clear fa fb fc rd lab lba lac lca
    go_enter Tryd.func4, Tryd.ntmps4
    go_upto_region 5 with (first | (go_at_call 5; (with_reducible refine AW.out.mono ?_); rintro e u0 ⟨rfl, hb⟩; have HA := Lib.hid hb; clear hb) | (go_at_call 6; (with_reducible refine (VA.out _ _ ?hv ?c0 ?c1 ?c2).mono ?_); (case hv => exact HA.out.alloc HA.out.size _); (case c0 => go_simp); (case c1 => go_simp); (case c2 => go_simp); rintro e u1 ⟨rfl, hb⟩; have HB := Lib.hid (HA.out.trans ((alloc_trans hb).mono HA.out.size)); clear hb))
    clear AW VA
    go_upto_region 6 with (go_at_call 7; (with_reducible refine (D1.out _ HB.out).mono ?_); rintro e y1 ⟨mv, pv, rfl, hf, hb⟩; obtain ⟨map, mcp, rfl⟩ := hf.view.1.form; obtain ⟨pap, pcp, rfl⟩ := hf.view.2.form; have HF := Lib.hid hf.view; have HX := Lib.hid hb; clear hf hb)
    have HX2 : Hid (Below u1.heap.size u1 (y1.alloc (.cells #[.slice map (minusS a b).length mcp, .slice pap (minusS b a).length pcp] 26))) := Lib.hid (HX.out.alloc HX.out.size _)
    have Pp : Hid (PView (y1.alloc (.cells #[.slice map (minusS a b).length mcp, .slice pap (minusS b a).length pcp] 26)) (.slice map (minusS a b).length mcp) (.slice pap (minusS b a).length pcp) ⟨(minusS a b), (minusS b a)⟩) := Lib.hid (HF.out.below ((Below.refl _ _).alloc (Nat.le_refl _) _))
    have Kp := Lib.hid (box_new2 (w := y1) (x := .slice map (minusS a b).length mcp) (y := .slice pap (minusS b a).length pcp) (T := 26))
    have HB_ := Lib.hid (HB.out.trans (HX2.out.mono HB.out.size))
    clear HB
    have HB := HB_
    clear HB_
    clear HX HX2 HF
    generalize hV1 : y1.alloc (.cells #[.slice map (minusS a b).length mcp, .slice pap (minusS b a).length pcp] 26) = V1 at HB Pp Kp ⊢
    clear hV1
    as_aux_lemma =>
      go_upto_region 7 with (go_at_call 7; (with_reducible refine (D2.out _ HB.out).mono ?_); rintro e y2 ⟨mv, pv, rfl, hf, hb⟩; obtain ⟨maq, mcq, rfl⟩ := hf.view.1.form; obtain ⟨paq, pcq, rfl⟩ := hf.view.2.form; have HF := Lib.hid hf.view; have HX := Lib.hid hb; clear hf hb)
      have HX2 : Hid (Below V1.heap.size V1 (y2.alloc (.cells #[.slice maq (minusS a c).length mcq, .slice paq (minusS c a).length pcq] 26))) := Lib.hid (HX.out.alloc HX.out.size _)
      have Pq : Hid (PView (y2.alloc (.cells #[.slice maq (minusS a c).length mcq, .slice paq (minusS c a).length pcq] 26)) (.slice maq (minusS a c).length mcq) (.slice paq (minusS c a).length pcq) ⟨(minusS a c), (minusS c a)⟩) := Lib.hid (HF.out.below ((Below.refl _ _).alloc (Nat.le_refl _) _))
      have Kq := Lib.hid (box_new2 (w := y2) (x := .slice maq (minusS a c).length mcq) (y := .slice paq (minusS c a).length pcq) (T := 26))
      have Pp_ := Lib.hid (PView.below Pp.out HX2.out)
      clear Pp
      have Pp := Pp_
      clear Pp_
      have Kp_ := Lib.hid (kept2 Kp.out HX2.out)
      clear Kp
      have Kp := Kp_
      clear Kp_
      have HB_ := Lib.hid (HB.out.trans (HX2.out.mono HB.out.size))
      clear HB
      have HB := HB_
      clear HB_
      clear HX HX2 HF
      generalize hV2 : y2.alloc (.cells #[.slice maq (minusS a c).length mcq, .slice paq (minusS c a).length pcq] 26) = V2 at HB Pp Kp Pq Kq ⊢
      clear hV2
      as_aux_lemma =>
        obtain ⟨xq0, xq1⟩ := Kq.out
        obtain ⟨xp0, xp1⟩ := Kp.out
        go_upto_region 8 with (go_at_call 12; (with_reducible refine (O1.out _ _ _ _ _ HB.out Pq.out Pp.out).mono ?_); rintro e y3 ⟨mv, pv, rfl, hf, hb⟩; obtain ⟨max, mcx, rfl⟩ := hf.view.1.form; obtain ⟨pax, pcx, rfl⟩ := hf.view.2.form; have HF := Lib.hid hf.view; have HX := Lib.hid hb; clear hf hb)
        clear xq0 xq1 xp0 xp1
        have HX2 : Hid (Below V2.heap.size V2 (y3.alloc (.cells #[.slice max (minusS (minusS a c) (minusS a b)).length mcx, .slice pax (minusS (minusS c a) (minusS b a)).length pcx] 26))) := Lib.hid (HX.out.alloc HX.out.size _)
        have Px : Hid (PView (y3.alloc (.cells #[.slice max (minusS (minusS a c) (minusS a b)).length mcx, .slice pax (minusS (minusS c a) (minusS b a)).length pcx] 26)) (.slice max (minusS (minusS a c) (minusS a b)).length mcx) (.slice pax (minusS (minusS c a) (minusS b a)).length pcx) ⟨(minusS (minusS a c) (minusS a b)), (minusS (minusS c a) (minusS b a))⟩) := Lib.hid (HF.out.below ((Below.refl _ _).alloc (Nat.le_refl _) _))
        have Kx := Lib.hid (box_new2 (w := y3) (x := .slice max (minusS (minusS a c) (minusS a b)).length mcx) (y := .slice pax (minusS (minusS c a) (minusS b a)).length pcx) (T := 26))
        have Pp_ := Lib.hid (PView.below Pp.out HX2.out)
        clear Pp
        have Pp := Pp_
        clear Pp_
        have Kp_ := Lib.hid (kept2 Kp.out HX2.out)
        clear Kp
        have Kp := Kp_
        clear Kp_
        have Pq_ := Lib.hid (PView.below Pq.out HX2.out)
        clear Pq
        have Pq := Pq_
        clear Pq_
        have Kq_ := Lib.hid (kept2 Kq.out HX2.out)
        clear Kq
        have Kq := Kq_
        clear Kq_
        have HB_ := Lib.hid (HB.out.trans (HX2.out.mono HB.out.size))
        clear HB
        have HB := HB_
        clear HB_
        clear HX HX2 HF
        generalize hV3 : y3.alloc (.cells #[.slice max (minusS (minusS a c) (minusS a b)).length mcx, .slice pax (minusS (minusS c a) (minusS b a)).length pcx] 26) = V3 at HB Pp Kp Pq Kq Px Kx ⊢
        clear hV3
        as_aux_lemma =>
          obtain ⟨xp0, xp1⟩ := Kp.out
          obtain ⟨xq0, xq1⟩ := Kq.out
          go_upto_region 9 with (go_at_call 12; (with_reducible refine (O2.out _ _ _ _ _ HB.out Pp.out Pq.out).mono ?_); rintro e y4 ⟨mv, pv, rfl, hf, hb⟩; obtain ⟨may, mcy, rfl⟩ := hf.view.1.form; obtain ⟨pay, pcy, rfl⟩ := hf.view.2.form; have HF := Lib.hid hf.view; have HX := Lib.hid hb; clear hf hb)
          clear xp0 xp1 xq0 xq1
          have HX2 : Hid (Below V3.heap.size V3 (y4.alloc (.cells #[.slice may (minusS (minusS a b) (minusS a c)).length mcy, .slice pay (minusS (minusS b a) (minusS c a)).length pcy] 26))) := Lib.hid (HX.out.alloc HX.out.size _)
          have Py : Hid (PView (y4.alloc (.cells #[.slice may (minusS (minusS a b) (minusS a c)).length mcy, .slice pay (minusS (minusS b a) (minusS c a)).length pcy] 26)) (.slice may (minusS (minusS a b) (minusS a c)).length mcy) (.slice pay (minusS (minusS b a) (minusS c a)).length pcy) ⟨(minusS (minusS a b) (minusS a c)), (minusS (minusS b a) (minusS c a))⟩) := Lib.hid (HF.out.below ((Below.refl _ _).alloc (Nat.le_refl _) _))
          have Ky := Lib.hid (box_new2 (w := y4) (x := .slice may (minusS (minusS a b) (minusS a c)).length mcy) (y := .slice pay (minusS (minusS b a) (minusS c a)).length pcy) (T := 26))
          have Pp_ := Lib.hid (PView.below Pp.out HX2.out)
          clear Pp
          have Pp := Pp_
          clear Pp_
          have Kp_ := Lib.hid (kept2 Kp.out HX2.out)
          clear Kp
          have Kp := Kp_
          clear Kp_
          have Pq_ := Lib.hid (PView.below Pq.out HX2.out)
          clear Pq
          have Pq := Pq_
          clear Pq_
          have Kq_ := Lib.hid (kept2 Kq.out HX2.out)
          clear Kq
          have Kq := Kq_
          clear Kq_
          have Px_ := Lib.hid (PView.below Px.out HX2.out)
          clear Px
          have Px := Px_
          clear Px_
          have Kx_ := Lib.hid (kept2 Kx.out HX2.out)
          clear Kx
          have Kx := Kx_
          clear Kx_
          have HB_ := Lib.hid (HB.out.trans (HX2.out.mono HB.out.size))
          clear HB
          have HB := HB_
          clear HB_
          clear HX HX2 HF
          generalize hV4 : y4.alloc (.cells #[.slice may (minusS (minusS a b) (minusS a c)).length mcy, .slice pay (minusS (minusS b a) (minusS c a)).length pcy] 26) = V4 at HB Pp Kp Pq Kq Px Kx Py Ky ⊢
          clear hV4
          as_aux_lemma =>
            go_upto_region 11 with fail
            obtain ⟨xx0, xx1⟩ := Kx.out
            go_upto_region 12 with (go_at_call 9; (with_reducible refine (A1.out _ _ _ HB.out Px.out).mono ?_); rintro e y5 ⟨vv, rfl, ho, hb⟩; obtain ⟨lal, lcl, rfl⟩ := ho.view.form; have Ll := Lib.hid ho.view; have HX := Lib.hid hb; clear ho hb)
            clear xx0 xx1
            have Pp_ := Lib.hid (PView.below Pp.out HX.out)
            clear Pp
            have Pp := Pp_
            clear Pp_
            have Kp_ := Lib.hid (kept2 Kp.out HX.out)
            clear Kp
            have Kp := Kp_
            clear Kp_
            have Pq_ := Lib.hid (PView.below Pq.out HX.out)
            clear Pq
            have Pq := Pq_
            clear Pq_
            have Kq_ := Lib.hid (kept2 Kq.out HX.out)
            clear Kq
            have Kq := Kq_
            clear Kq_
            have Px_ := Lib.hid (PView.below Px.out HX.out)
            clear Px
            have Px := Px_
            clear Px_
            have Kx_ := Lib.hid (kept2 Kx.out HX.out)
            clear Kx
            have Kx := Kx_
            clear Kx_
            have Py_ := Lib.hid (PView.below Py.out HX.out)
            clear Py
            have Py := Py_
            clear Py_
            have Ky_ := Lib.hid (kept2 Ky.out HX.out)
            clear Ky
            have Ky := Ky_
            clear Ky_
            have HB_ := Lib.hid (HB.out.trans (HX.out.mono HB.out.size))
            clear HB
            have HB := HB_
            clear HB_ HX
            as_aux_lemma =>
              obtain ⟨xy0, xy1⟩ := Ky.out
              go_upto_region 13 with (go_at_call 9; (with_reducible refine (A2.out _ _ _ HB.out Py.out).mono ?_); rintro e y6 ⟨vv, rfl, ho, hb⟩; obtain ⟨lam, lcm, rfl⟩ := ho.view.form; have Lm := Lib.hid ho.view; have HX := Lib.hid hb; clear ho hb)
              clear xy0 xy1
              have Pp_ := Lib.hid (PView.below Pp.out HX.out)
              clear Pp
              have Pp := Pp_
              clear Pp_
              have Kp_ := Lib.hid (kept2 Kp.out HX.out)
              clear Kp
              have Kp := Kp_
              clear Kp_
              have Pq_ := Lib.hid (PView.below Pq.out HX.out)
              clear Pq
              have Pq := Pq_
              clear Pq_
              have Kq_ := Lib.hid (kept2 Kq.out HX.out)
              clear Kq
              have Kq := Kq_
              clear Kq_
              have Px_ := Lib.hid (PView.below Px.out HX.out)
              clear Px
              have Px := Px_
              clear Px_
              have Kx_ := Lib.hid (kept2 Kx.out HX.out)
              clear Kx
              have Kx := Kx_
              clear Kx_
              have Py_ := Lib.hid (PView.below Py.out HX.out)
              clear Py
              have Py := Py_
              clear Py_
              have Ky_ := Lib.hid (kept2 Ky.out HX.out)
              clear Ky
              have Ky := Ky_
              clear Ky_
              have Ll_ := Lib.hid (QView.below Ll.out HX.out)
              clear Ll
              have Ll := Ll_
              clear Ll_
              have HB_ := Lib.hid (HB.out.trans (HX.out.mono HB.out.size))
              clear HB
              have HB := HB_
              clear HB_ HX
              as_aux_lemma =>
                go_upto_region 15 with (go_at_call 10; (with_reducible refine (SL.out _ _ _ Ll.out Lm.out).mono ?_); rintro e z1 ⟨rfl, hb⟩; have HX := Lib.hid hb; clear hb)
                clear Lm Px Kx Py Ky
                have Pp_ := Lib.hid (PView.below Pp.out HX.out)
                clear Pp
                have Pp := Pp_
                clear Pp_
                have Kp_ := Lib.hid (kept2 Kp.out HX.out)
                clear Kp
                have Kp := Kp_
                clear Kp_
                have Pq_ := Lib.hid (PView.below Pq.out HX.out)
                clear Pq
                have Pq := Pq_
                clear Pq_
                have Kq_ := Lib.hid (kept2 Kq.out HX.out)
                clear Kq
                have Kq := Kq_
                clear Kq_
                have Ll_ := Lib.hid (QView.below Ll.out HX.out)
                clear Ll
                have Ll := Ll_
                clear Ll_
                have HB_ := Lib.hid (HB.out.trans (HX.out.mono HB.out.size))
                clear HB
                have HB := HB_
                clear HB_ HX
                as_aux_lemma =>
                  obtain ⟨xp0, xp1⟩ := Kp.out
                  obtain ⟨xq0, xq1⟩ := Kq.out
                  go_upto_region 16 with fail
                  clear xp0 xp1 xq0 xq1
                  have S4 := Lib.hid (fun (u : World) (hb : Below (z1.alloc (.cells #[.slice map (minusS a b).length mcp, .slice pap (minusS b a).length pcp, .slice maq (minusS a c).length mcq, .slice paq (minusS c a).length pcq] 26)).heap.size (z1.alloc (.cells #[.slice map (minusS a b).length mcp, .slice pap (minusS b a).length pcp, .slice maq (minusS a c).length mcq, .slice paq (minusS c a).length pcq] 26)) u) => And.intro (slots4 hb) (And.intro (PView.below Pp.out (((Below.refl _ _).alloc (Nat.le_refl _) _).trans (hb.mono (by simp)))) (And.intro (PView.below Pq.out (((Below.refl _ _).alloc (Nat.le_refl _) _).trans (hb.mono (by simp)))) (QView.below Ll.out (((Below.refl _ _).alloc (Nat.le_refl _) _).trans (hb.mono (by simp)))))))
                  have HB9 := Lib.hid (HB.out.alloc HB.out.size (.cells #[.slice map (minusS a b).length mcp, .slice pap (minusS b a).length pcp, .slice maq (minusS a c).length mcq, .slice paq (minusS c a).length pcq] 26))
                  generalize hW : z1.alloc (.cells #[.slice map (minusS a b).length mcp, .slice pap (minusS b a).length pcp, .slice maq (minusS a c).length mcq, .slice paq (minusS c a).length pcq] 26) = W at S4 HB9 ⊢
                  clear hW Pp Pq Ll Kp Kq HB
                  go_wp2_with fail
                  go_loopw [18] (fun i wr => (i = .int .i64 0 ∨ i = .int .i64 1 ∨ i = .int .i64 2) ∧ Below W.heap.size W wr) (fun i _ => 2 - (intOf i).toNat)
                  case atStart => exact ⟨.inl rfl, Below.refl _ _⟩
                  case round =>
                    obtain ⟨hi, hbr⟩ := hrel
                    obtain ⟨⟨s0, s1, s2, s3⟩, K1, K2, K3⟩ := S4.out _ hbr
                    have HR := Lib.hid hbr
                    have G1a := Lib.hid K1.1
                    have G1b := Lib.hid K1.2
                    have G2a := Lib.hid K2.1
                    have G2b := Lib.hid K2.2
                    have G3 := Lib.hid K3
                    clear K1 K2 K3 hbr
                    rcases hi with rfl | rfl | rfl
                    · as_aux_lemma =>
                      go_wp2_with (first | (go_at_call 13; (with_reducible refine (E1.out _ _ _ G3.out G1a.out).mono ?_); rintro e q1 ⟨vv, rfl, ho, hb⟩; obtain ⟨ka1, kc1, rfl⟩ := ho.view.form; have HQ1 := Lib.hid hb; clear ho hb; obtain ⟨⟨s0, s1, s2, s3⟩, _, _, _⟩ := S4.out _ (HR.out.trans (HQ1.out.mono HR.out.size))) | (go_at_call 13; (with_reducible refine (E2.out _ _ _ (G3.out.below HQ1.out) (G1b.out.below HQ1.out)).mono ?_); rintro e q2 ⟨vv, rfl, ho, hb⟩; obtain ⟨ka2, kc2, rfl⟩ := ho.view.form; have HQ2 := Lib.hid hb; clear ho hb; obtain ⟨⟨s0, s1, s2, s3⟩, _, _, _⟩ := S4.out _ (HR.out.trans ((HQ1.out.trans (HQ2.out.mono HQ1.out.size)).mono HR.out.size))))
                      go_roundw
                      case rel => exact ⟨.inr (.inl rfl), HR.out.trans ((HQ1.out.trans (HQ2.out.mono HQ1.out.size)).mono HR.out.size)⟩
                      case measure => simp [intOf]
                    · as_aux_lemma =>
                      go_wp2_with (first | (go_at_call 13; (with_reducible refine (E3.out _ _ _ G3.out G2a.out).mono ?_); rintro e q1 ⟨vv, rfl, ho, hb⟩; obtain ⟨ka1, kc1, rfl⟩ := ho.view.form; have HQ1 := Lib.hid hb; clear ho hb; obtain ⟨⟨s0, s1, s2, s3⟩, _, _, _⟩ := S4.out _ (HR.out.trans (HQ1.out.mono HR.out.size))) | (go_at_call 13; (with_reducible refine (E4.out _ _ _ (G3.out.below HQ1.out) (G2b.out.below HQ1.out)).mono ?_); rintro e q2 ⟨vv, rfl, ho, hb⟩; obtain ⟨ka2, kc2, rfl⟩ := ho.view.form; have HQ2 := Lib.hid hb; clear ho hb; obtain ⟨⟨s0, s1, s2, s3⟩, _, _, _⟩ := S4.out _ (HR.out.trans ((HQ1.out.trans (HQ2.out.mono HQ1.out.size)).mono HR.out.size))))
                      go_roundw
                      case rel => exact ⟨.inr (.inr rfl), HR.out.trans ((HQ1.out.trans (HQ2.out.mono HQ1.out.size)).mono HR.out.size)⟩
                      case measure => simp [intOf]
                    · as_aux_lemma =>
                      go_wp2_with fail
                      go_ret
                      exact ⟨rfl, HB9.out.trans (HR.out.mono HB9.out.size)⟩
end Go.Proofs.YthipcepgbegaiaaDoor
