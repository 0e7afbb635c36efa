/-
  term.nextIRI, term.nextBlank: contracts. By an AI agent.
-/
import Derived.Test.YtmnigckpejcaeaaGreatDoorZEscBack0
import Derived.Deep.CutRange
import Derived.IntWalk
namespace Go.Proofs.YtmnigckpejcaeaaGreatDoor
open Go.RowKit
set_option maxRecDepth 100000
def irT : (List UInt8 × Nat) ⊕ (Nat × Int) -> (TermL × Nat) ⊕ (Nat × Int)
 | .inr f => .inr f
 | .inl (t, n) => .inl (⟨1, t, [], []⟩, n)
structure ResT (w w' : World) : Prop where
 b : Below w.heap.size w w'
 c0 : w'.cell? ⟨w.heap.size, 0, none⟩ = some (.int .i64 0)
 c1 : w'.cell? ⟨w.heap.size, 1, none⟩ = some (.string ⟨#[]⟩)
 c2 : w'.cell? ⟨w.heap.size, 2, none⟩ = some (.string ⟨#[]⟩)
 c3 : w'.cell? ⟨w.heap.size, 3, none⟩ = some (.string ⟨#[]⟩)
 f0 : w'.frozen? ⟨w.heap.size, 0, none⟩ = false
 f1 : w'.frozen? ⟨w.heap.size, 1, none⟩ = false
 f2 : w'.frozen? ⟨w.heap.size, 2, none⟩ = false
 f3 : w'.frozen? ⟨w.heap.size, 3, none⟩ = false
theorem resT_new {w w' : World} {T : TypeId} (hb : Below (w.alloc (.cells #[.int .i64 0, .string ⟨#[]⟩, .string ⟨#[]⟩, .string ⟨#[]⟩] T)).heap.size (w.alloc (.cells #[.int .i64 0, .string ⟨#[]⟩, .string ⟨#[]⟩, .string ⟨#[]⟩] T)) w') : ResT w w' :=
 ⟨((Below.refl _ _).alloc (Nat.le_refl _) _).trans (hb.mono (by simp)), new_cell hb 0 _ rfl, new_cell hb 1 _ rfl, new_cell hb 2 _ rfl, new_cell hb 3 _ rfl, new_frozen hb 0, new_frozen hb 1, new_frozen hb 2, new_frozen hb 3⟩
theorem ResT.lt {w w' : World} (h : ResT w w') : w.heap.size < w'.heap.size := World.block_lt_of_cell? _ _ h.c0
theorem ResT.later {w w1 w2 : World} (h : ResT w w1) (hb : Below w1.heap.size w1 w2) : ResT w w2 :=
 ⟨h.b.trans (hb.mono h.b.size), (hb.cell (p := ⟨w.heap.size, 0, none⟩) h.lt).trans h.c0, (hb.cell (p := ⟨w.heap.size, 1, none⟩) h.lt).trans h.c1, (hb.cell (p := ⟨w.heap.size, 2, none⟩) h.lt).trans h.c2, (hb.cell (p := ⟨w.heap.size, 3, none⟩) h.lt).trans h.c3,
   (hb.frozen (p := ⟨w.heap.size, 0, none⟩) h.lt).trans h.f0, (hb.frozen (p := ⟨w.heap.size, 1, none⟩) h.lt).trans h.f1, (hb.frozen (p := ⟨w.heap.size, 2, none⟩) h.lt).trans h.f2, (hb.frozen (p := ⟨w.heap.size, 3, none⟩) h.lt).trans h.f3⟩
theorem ResT.alloc {w w1 : World} (h : ResT w w1) (o : Obj) : ResT w (w1.alloc o) := h.later ((Below.refl _ _).alloc (Nat.le_refl _) _)
theorem ResT.drewN {w w1 : World} (h : ResT w w1) (n : Nat) : ResT w (w1.drewN n) := ⟨h.b.trans ((below_drewN w1 n).mono h.b.size), h.c0, h.c1, h.c2, h.c3, h.f0, h.f1, h.f2, h.f3⟩
abbrev set4 (W : World) (R : Nat) (a b c d : Value) : World := ((((W.setCell ⟨R, 0, none⟩ a).setCell ⟨R, 1, none⟩ b).setCell ⟨R, 2, none⟩ c).setCell ⟨R, 3, none⟩ d)
theorem err_set4 {w W : World} {v : Value} {p : Nat} {n : Int} (hR : ResT w W) (h : ErrIs W v (.inr (p, n))) (a b c d : Value) : ErrIs (set4 W w.heap.size a b c d) v (.inr (p, n)) := by
 have hne : ∀ b, v = .iface 77 (.pointer (some ⟨b, 0, none⟩)) -> b ≠ w.heap.size := by
   rintro b rfl rfl
   obtain ⟨b, hb, _, h2⟩ := h
   cases hb
   rw [hR.c1] at h2
   cases h2
 exact err_set (err_set (err_set (err_set h hne) hne) hne) hne
theorem below_set4 {w W : World} (hb : Below w.heap.size w W) (a b c d : Value) : Below w.heap.size w (set4 W w.heap.size a b c d) :=
 (((hb.setCell (Nat.le_refl _) _).setCell (Nat.le_refl _) _).setCell (Nat.le_refl _) _).setCell (Nat.le_refl _) _
theorem next_err {w W : World} {v : Value} {p : Nat} {n : Int} {x : (TermL × Nat) ⊕ (Nat × Int)} (hR : ResT w W) (h : ErrIs W v (.inr (p, n))) (hx : x = .inr (p, n)) (a b c d : Value) :
   NextOut (set4 W w.heap.size a b c d) (.returned (.tuple #[.agg #[.int .i64 0, .string ⟨#[]⟩, .string ⟨#[]⟩, .string ⟨#[]⟩], .int .i64 0, v])) x /\ Below w.heap.size w (set4 W w.heap.size a b c d) :=
 ⟨nextOut_bad (a := []) (b := []) (d := []) hx (err_set4 hR h a b c d), below_set4 hR.b a b c d⟩
theorem next_errN {w W : World} {p : Nat} {P n : Int} {x : (TermL × Nat) ⊕ (Nat × Int)} (hb : Below w.heap.size w W) (hx : x = .inr (p, n)) (hP : (p : Int) = P) (a b c d : Value) (k m : Int) (s1 s2 s3 : List UInt8) :
   NextOut ((set4 W w.heap.size a b c d).alloc (.cells #[.int .i64 P, .iface 28 (.int .i64 n)] 79)) (.returned (.tuple #[.agg #[.int .i64 k, .string (B s1), .string (B s2), .string (B s3)], .int .i64 m, .iface 77 (.pointer (some ⟨W.heap.size, 0, none⟩))])) x /\ Below w.heap.size w ((set4 W w.heap.size a b c d).alloc (.cells #[.int .i64 P, .iface 28 (.int .i64 n)] 79)) := by
 subst hP
 refine ⟨nextOut_bad hx ?_, (below_set4 hb a b c d).alloc (below_set4 hb a b c d).size _⟩
 have h := err_new (set4 W w.heap.size a b c d) p n
 have e : (set4 W w.heap.size a b c d).heap.size = W.heap.size := by simp [set4]
 rw [e] at h
 exact h
theorem next_ok {w W : World} {t : TermL} {n : Nat} {N : Int} {x : (TermL × Nat) ⊕ (Nat × Int)} (hb : Below w.heap.size w W) (hx : x = .inl (t, n)) (hN : (n : Int) = N) (a b c d : Value) :
   NextOut (set4 W w.heap.size a b c d) (.returned (.tuple #[.agg #[.int .i64 t.kind, .string (B t.text), .string (B t.type), .string (B t.lang)], .int .i64 N, .nilIface])) x /\ Below w.heap.size w (set4 W w.heap.size a b c d) := by
 subst hx hN
 exact ⟨rfl, below_set4 hb a b c d⟩
set_option maxHeartbeats 1600000 in
theorem nextIRI_l (l : List UInt8) (i : Nat) (w : World) (hl : l.length <= 16777216) (hi : i < l.length) (h60 : l.getD i 0 = 60) :
   Calls Tryz.prog 233 #[.string (B l), .int .i64 (i : Int)] w fun e w' => NextOut w' e (irT (iriAt l i)) /\ Below w.heap.size w w' := by
 have AT := Lib.hid termAtErr_l
 have R1 := Lib.hid (fun w' => resT_new (w := w) (w' := w') (T := 54))
 have hx := ix_gt (l := l) l.length i (by omega) (by omega)
 rw [gtF_go hi (by rw [h60]; decide)] at hx
 have hgb := gtF_bound l l.length (i + 1) (by omega) (by omega)
 obtain ⟨g, hg⟩ : ∃ g, gtF l (i + 1) = g := ⟨_, rfl⟩
 rw [hg] at hx hgb
 have HI : Hid (iriAt l i = if l.length <= g then .inr (l.length, 90) else (match unescF 2 (cutF l (i + 1) g) 0 with
   | .inr (p, e) => .inr (i + 1 + p, e)
   | .inl t => if iriN t ≠ 0 then .inr (i, iriN t) else .inl (t, g + 1))) := Lib.hid (by unfold iriAt; rw [if_neg (by rw [h60]; simp), hg]; rfl)
 clear hg h60
 by_cases hend : l.length <= g
 · rw [if_pos hend] at hx
   have IX := Lib.hid (fun u => ix_at (B (l.drop i)) 62 (-1) (by rw [B_toList]; exact hx) u)
   have HE : Hid (irT (iriAt l i) = .inr (l.length, 90)) := Lib.hid (by rw [HI.out, if_pos hend]; rfl)
   clear hx hend hgb HI
   go_enter Tryz.func233, Tryz.ntmps233
   go_wp2_with (first | (go_at_call 152; (with_reducible refine (IX.out _).mono ?_); rintro e w1 ⟨rfl, hw1⟩; obtain rfl := hw1.symm) | (go_at_call 247; refine (AT.out _ _ _).mono ?_; rintro e w4 ⟨rfl, rfl⟩))
   refine bodyPost_ret (v := .tuple #[.agg #[.int .i64 0, .string ⟨#[]⟩, .string ⟨#[]⟩, .string ⟨#[]⟩], .int .i64 0, .iface 77 (.pointer (some ⟨w.heap.size + 1, 0, none⟩))]) (by simp [results, Tryz.results233, go_sem]) rfl ?_
   refine ⟨nextOut_bad (a := []) (b := []) (d := []) HE.out ?_, ((Below.refl _ _).alloc (Nat.le_refl _) _).alloc (by simp) _⟩
   have h := err_new (w.alloc (.cells #[.int .i64 0, .string ⟨#[]⟩, .string ⟨#[]⟩, .string ⟨#[]⟩] 54)) l.length 90
   rw [World.size_alloc] at h
   exact h
 rw [if_neg hend] at hx
 rw [if_neg hend] at HI
 obtain ⟨k, rfl⟩ : ∃ k, g = i + k := ⟨g - i, by omega⟩
 have hk0 : 0 < k := by omega
 have hkl : i + k < l.length := by omega
 rw [show ((i + k : Nat) : Int) - (i : Int) = (k : Int) by omega] at hx
 have IX := Lib.hid (fun u => ix_at (B (l.drop i)) 62 (k : Int) (by rw [B_toList]; exact hx) u)
 have hcl := cutF_len l (i + 1) (i + k)
 have HCUT : Hid ((l.drop (i + 1)).take (i + k - (i + 1)) = cutF l (i + 1) (i + k)) := Lib.hid rfl
 clear hx hend hgb
 cases hq : unescF 2 (cutF l (i + 1) (i + k)) 0 with
 | inr f =>
   obtain ⟨p, e⟩ := f
   have hp := (unesc_at 2 _ _ 0 p e (Nat.le_refl _) hq).1
   have UN := Lib.hid (fun u => unescape_bad hq (by omega) u)
   have MV := Lib.hid (fun v u (h : ErrIs u v (.inr (p, e))) => moved_l v p (i + 1) ((i : Int) + 1) e (by omega) u h (by omega))
   have HE : Hid (irT (iriAt l i) = .inr (p + (i + 1), e)) := Lib.hid (by rw [HI.out, hq, Nat.add_comm p]; rfl)
   clear hq hp HI hcl
   go_enter Tryz.func233, Tryz.ntmps233
   go_wp2_with (first
     | (go_at_call 152; (with_reducible refine (IX.out _).mono ?_); rintro e w1 ⟨rfl, hw1⟩; obtain rfl := hw1.symm)
     | (go_at_call 248; rw [HCUT.out]; (with_reducible refine (UN.out _).mono ?_); rintro e w2 ⟨eb, rfl, he, hb⟩; have HR2 := Lib.hid (R1.out _ hb); have HER := Lib.hid he; clear he hb)
     | (go_at_call 249; (refine (MV.out _ _ HER.out).mono ?_); rintro e w3 ⟨v3, rfl, he, hb⟩; have HE3 := Lib.hid he; have HR3 := Lib.hid (HR2.out.later hb); clear he hb; obtain ⟨bb, c0, c1, c2, c3, f0, f1, f2, f3⟩ := HR3.out))
   refine bodyPost_ret (v := .tuple #[.agg #[.int .i64 0, .string ⟨#[]⟩, .string ⟨#[]⟩, .string ⟨#[]⟩], .int .i64 0, v3]) (by simp [results, Tryz.results233, go_sem, c0, c1, c2, c3]) rfl ?_
   exact next_err HR3.out HE3.out HE.out _ _ _ _
 | inl t =>
   have hu := unesc_len 2 _ _ 0 t (Nat.le_refl _) hq
   have UN := Lib.hid (fun u => unescape_ok hq (by omega) u)
   have IR := Lib.hid (fun u => iriCheck_l t u (by omega))
   obtain ⟨n, hn⟩ : ∃ n, iriN t = n := ⟨_, rfl⟩
   rw [hq] at HI
   simp only [hn] at HI IR
   by_cases h0 : n = 0
   · have q0 : (n != 0) = false := by rw [h0]; rfl
     have HE : Hid (irT (iriAt l i) = .inl (⟨1, t, [], []⟩, i + k + 1)) := Lib.hid (by rw [HI.out, if_neg (fun h => h h0)]; rfl)
     clear hq hu hn h0 HI hcl
     go_enter Tryz.func233, Tryz.ntmps233
     go_wp2_with (first
     | (go_at_call 152; (with_reducible refine (IX.out _).mono ?_); rintro e w1 ⟨rfl, hw1⟩; obtain rfl := hw1.symm)
       | (go_at_call 248; rw [HCUT.out]; (with_reducible refine (UN.out _).mono ?_); rintro e w2 ⟨rfl, hb⟩; have HR2 := Lib.hid (R1.out _ hb); clear hb)
       | (go_at_call 102; (with_reducible refine (IR.out _).mono ?_); rintro e w3 ⟨rfl, hb⟩; have HR3 := Lib.hid (HR2.out.later hb); clear hb; obtain ⟨bb, c0, c1, c2, c3, f0, f1, f2, f3⟩ := HR3.out))
     refine bodyPost_ret (v := .tuple #[.agg #[.int .i64 1, .string (B t), .string ⟨#[]⟩, .string ⟨#[]⟩], .int .i64 ((i : Int) + (k : Int) + 1), .nilIface]) (by simp [results, Tryz.results233, go_sem, c0, c1, c2, c3]) rfl ?_
     exact next_ok (t := ⟨1, t, [], []⟩) HR3.out.b HE.out (by omega) _ _ _ _
   · have q0 : (n != 0) = true := bne_iff_ne.2 h0
     have HE : Hid (irT (iriAt l i) = .inr (i, n)) := Lib.hid (by rw [HI.out, if_pos h0]; rfl)
     clear hq hu hn h0 HI hcl
     go_enter Tryz.func233, Tryz.ntmps233
     go_wp2_with (first
     | (go_at_call 152; (with_reducible refine (IX.out _).mono ?_); rintro e w1 ⟨rfl, hw1⟩; obtain rfl := hw1.symm)
       | (go_at_call 248; rw [HCUT.out]; (with_reducible refine (UN.out _).mono ?_); rintro e w2 ⟨rfl, hb⟩; have HR2 := Lib.hid (R1.out _ hb); clear hb)
       | (go_at_call 102; (with_reducible refine (IR.out _).mono ?_); rintro e w3 ⟨rfl, hb⟩; have HR3 := Lib.hid (HR2.out.later hb); clear hb; obtain ⟨bb, c0, c1, c2, c3, f0, f1, f2, f3⟩ := HR3.out; have hlt3 := HR3.out.lt)
       | (go_at_call 247; refine (AT.out _ _ _).mono ?_; rintro e w4 ⟨rfl, rfl⟩))
     refine bodyPost_ret (v := .tuple #[.agg #[.int .i64 0, .string ⟨#[]⟩, .string ⟨#[]⟩, .string ⟨#[]⟩], .int .i64 0, .iface 77 (.pointer (some ⟨w3.heap.size, 0, none⟩))]) (by simp [results, Tryz.results233, go_sem, c0, c1, c2, c3, hlt3]) rfl ?_
     exact next_errN HR3.out.b HE.out rfl _ _ _ _ 0 0 [] [] []
theorem next_errZ {w : World} {p : Nat} {P n : Int} {x : (TermL × Nat) ⊕ (Nat × Int)} (hx : x = .inr (p, n)) (hP : (p : Int) = P) :
   NextOut ((w.alloc (.cells #[.int .i64 0, .string ⟨#[]⟩, .string ⟨#[]⟩, .string ⟨#[]⟩] 54)).alloc (.cells #[.int .i64 P, .iface 28 (.int .i64 n)] 79)) (.returned (.tuple #[.agg #[.int .i64 0, .string ⟨#[]⟩, .string ⟨#[]⟩, .string ⟨#[]⟩], .int .i64 0, .iface 77 (.pointer (some ⟨w.heap.size + 1, 0, none⟩))])) x /\
     Below w.heap.size w ((w.alloc (.cells #[.int .i64 0, .string ⟨#[]⟩, .string ⟨#[]⟩, .string ⟨#[]⟩] 54)).alloc (.cells #[.int .i64 P, .iface 28 (.int .i64 n)] 79)) := by
 subst hP
 refine ⟨nextOut_bad (a := []) (b := []) (d := []) hx ?_, ((Below.refl _ _).alloc (Nat.le_refl _) _).alloc (by simp) _⟩
 have h := err_new (w.alloc (.cells #[.int .i64 0, .string ⟨#[]⟩, .string ⟨#[]⟩, .string ⟨#[]⟩] 54)) p n
 rw [World.size_alloc] at h
 exact h
set_option maxHeartbeats 1600000 in
theorem nextBlank_l (l : List UInt8) (i : Nat) (w : World) (hT : TabAt w) (hl : l.length <= 16777216) (hi : i < l.length) :
   Calls Tryz.prog 234 #[.string (B l), .int .i64 (i : Int)] w fun e w' => NextOut w' e (blankAt l i) /\ Below w.heap.size w w' := by
 have AT := Lib.hid termAtErr_l
 have HT1 : Hid (TabAt (w.alloc (.cells #[.int .i64 0, .string ⟨#[]⟩, .string ⟨#[]⟩, .string ⟨#[]⟩] 54))) := Lib.hid (hT.below ((Below.refl _ _).alloc (Nat.le_refl _) _))
 have LA := Lib.hid (fun u (h : TabAt u) => labelAt_l l ((i : Int) + 2) u (by omega) (by omega) h)
 have HB : Hid (blankAt l i = if l.getD (i + 1) 0 ≠ 58 then .inr (i + 1, 90) else if runF labelB l (i + 2 : Nat) = 0 then .inr (i + 2, 60) else if 65536 < runF labelB l (i + 2 : Nat) then .inr (i, 2) else .inl (⟨2, cutF l (i + 2) (i + 2 + runF labelB l (i + 2 : Nat)), [], []⟩, i + 2 + runF labelB l (i + 2 : Nat))) := Lib.hid rfl
 have hrun := run_ok (l := l) (b := i + 2)
 rw [show ((i + 2 : Nat) : Int) = (i : Int) + 2 by omega] at hrun HB
 obtain ⟨n, hn⟩ : ∃ n, runF labelB l ((i : Int) + 2) = n := ⟨_, rfl⟩
 rw [hn] at LA HB hrun
 clear hn hT
 by_cases h1 : i + 1 = l.length
 · have e1 : ((i : Int) + 1 == (l.length : Int)) = true := beq_iff_eq.2 (by omega)
   have HE : Hid (blankAt l i = .inr (i + 1, 90)) := Lib.hid (by rw [HB.out, if_pos (by simp [List.getD, h1])])
   clear h1 HB hrun
   go_enter Tryz.func234, Tryz.ntmps234
   go_wp2_with (go_at_call 247; refine (AT.out _ _ _).mono ?_; rintro e w4 ⟨rfl, rfl⟩)
   refine bodyPost_ret (v := .tuple #[.agg #[.int .i64 0, .string ⟨#[]⟩, .string ⟨#[]⟩, .string ⟨#[]⟩], .int .i64 0, .iface 77 (.pointer (some ⟨w.heap.size + 1, 0, none⟩))]) (by simp [results, Tryz.results234, go_sem]) rfl ?_
   exact next_errZ HE.out (by omega)
 have e1 : ((i : Int) + 1 == (l.length : Int)) = false := beq_eq_false_iff_ne.2 (by omega)
 have hlt : i + 1 < l.length := by omega
 have hg := getD_at hlt
 by_cases h58 : l[i + 1] = 58
 case neg =>
   have e2 : ((l[i + 1].toNat : Int) != 58) = true := by rw [bne, show ((l[i + 1].toNat : Int) == 58) = false from byte_ne (d := 58) h58]; rfl
   have HE : Hid (blankAt l i = .inr (i + 1, 90)) := Lib.hid (by rw [HB.out, if_pos (by rw [hg]; exact h58)])
   clear h1 hg HB hrun h58
   go_enter Tryz.func234, Tryz.ntmps234
   go_wp2_with (go_at_call 247; refine (AT.out _ _ _).mono ?_; rintro e w4 ⟨rfl, rfl⟩)
   refine bodyPost_ret (v := .tuple #[.agg #[.int .i64 0, .string ⟨#[]⟩, .string ⟨#[]⟩, .string ⟨#[]⟩], .int .i64 0, .iface 77 (.pointer (some ⟨w.heap.size + 1, 0, none⟩))]) (by simp [results, Tryz.results234, go_sem]) rfl ?_
   exact next_errZ HE.out (by omega)
 have e2 : ((l[i + 1].toNat : Int) != 58) = false := by rw [h58]; rfl
 rw [if_neg (by rw [hg, h58]; simp)] at HB
 clear h1 hg h58
 by_cases h0 : n = 0
 · have e3 : ((n : Int) == 0) = true := by rw [h0]; rfl
   have HE : Hid (blankAt l i = .inr (i + 2, 60)) := Lib.hid (by rw [HB.out, if_pos h0])
   clear HB hrun h0
   go_enter Tryz.func234, Tryz.ntmps234
   go_wp2_with (first | (go_at_call 247; refine (AT.out _ _ _).mono ?_; rintro e w4 ⟨rfl, rfl⟩) | (go_at_call 135; (with_reducible refine (LA.out _ HT1.out).mono ?_); rintro e w2 ⟨rfl, rfl⟩))
   refine bodyPost_ret (v := .tuple #[.agg #[.int .i64 0, .string ⟨#[]⟩, .string ⟨#[]⟩, .string ⟨#[]⟩], .int .i64 0, .iface 77 (.pointer (some ⟨w.heap.size + 1, 0, none⟩))]) (by simp [results, Tryz.results234, go_sem]) rfl ?_
   exact next_errZ HE.out (by omega)
 have e3 : ((n : Int) == 0) = false := beq_eq_false_iff_ne.2 (by omega)
 rw [if_neg h0] at HB
 have hle := (hrun h0).1
 clear hrun
 by_cases hbig : 65536 < n
 · have e4 : decide ((65536 : Int) < (n : Int)) = true := decide_eq_true (by omega)
   have HE : Hid (blankAt l i = .inr (i, 2)) := Lib.hid (by rw [HB.out, if_pos hbig])
   clear HB h0 hbig hle
   go_enter Tryz.func234, Tryz.ntmps234
   go_wp2_with (first | (go_at_call 247; refine (AT.out _ _ _).mono ?_; rintro e w4 ⟨rfl, rfl⟩) | (go_at_call 135; (with_reducible refine (LA.out _ HT1.out).mono ?_); rintro e w2 ⟨rfl, rfl⟩))
   refine bodyPost_ret (v := .tuple #[.agg #[.int .i64 0, .string ⟨#[]⟩, .string ⟨#[]⟩, .string ⟨#[]⟩], .int .i64 0, .iface 77 (.pointer (some ⟨w.heap.size + 1, 0, none⟩))]) (by simp [results, Tryz.results234, go_sem]) rfl ?_
   exact next_errZ HE.out (by omega)
 have e4 : decide ((65536 : Int) < (n : Int)) = false := decide_eq_false (by omega)
 have HE : Hid (blankAt l i = .inl (⟨2, (l.drop (i + 2)).take n, [], []⟩, i + 2 + n)) := Lib.hid (by rw [HB.out, if_neg hbig]; unfold cutF; rw [Nat.add_sub_cancel_left])
 clear HB h0 hbig
 go_enter Tryz.func234, Tryz.ntmps234
 go_wp2_with (first | (go_at_call 247; refine (AT.out _ _ _).mono ?_; rintro e w4 ⟨rfl, rfl⟩) | (go_at_call 135; (with_reducible refine (LA.out _ HT1.out).mono ?_); rintro e w2 ⟨rfl, rfl⟩))
 refine bodyPost_ret (v := .tuple #[.agg #[.int .i64 2, .string (B ((l.drop (i + 2)).take n)), .string ⟨#[]⟩, .string ⟨#[]⟩], .int .i64 ((i : Int) + 2 + (n : Int)), .nilIface]) (by simp [results, Tryz.results234, go_sem]) rfl ?_
 exact ⟨by rw [HE.out]; rfl, (Below.refl _ _).alloc (Nat.le_refl _) _⟩
end Go.Proofs.YtmnigckpejcaeaaGreatDoor
namespace Go.Proofs.YtmnigckpejcaeaaGreatDoor
open Go.RowKit
set_option maxRecDepth 100000
def lanT (t : TermL) : (List UInt8 × Nat) ⊕ (Nat × Int) -> (TermL × Nat) ⊕ (Nat × Int)
 | .inr f => .inr f
 | .inl (g, n) => .inl (⟨t.kind, t.text, tagged, g⟩, n)
theorem or32_all : ∀ n < 256, ((decide (97 <= bits .or .u8 ((n : Nat) : Int) 32) && decide (bits .or .u8 ((n : Nat) : Int) 32 <= 122)) = alphaC n.toUInt8) := by decide +kernel
theorem or32_ok (c : UInt8) : ∃ x : Int, bits .or .u8 (c.toNat : Int) 32 = x /\ (decide (97 <= x) && decide (x <= 122)) = alphaC c := ⟨_, rfl, by
 have := or32_all c.toNat c.toNat_lt
 rw [this]
 congr 1
 exact UInt8.toNat_inj.1 (by simp)⟩
theorem tag_tests (c : UInt8) : ∃ x : Int, Hid (bits .or .u8 (c.toNat : Int) 32 = x) /\
   ((((c.toNat : Int) == 45) = true /\ tagC c = true) \/ (((c.toNat : Int) == 45) = false /\
     ((decide (48 <= (c.toNat : Int)) = true /\ decide ((c.toNat : Int) <= 57) = true /\ tagC c = true) \/
       ((decide (48 <= (c.toNat : Int)) = false \/ (decide (48 <= (c.toNat : Int)) = true /\ decide ((c.toNat : Int) <= 57) = false)) /\
         ((decide (97 <= x) = true /\ decide (x <= 122) = true /\ tagC c = true) \/ (decide (97 <= x) = true /\ decide (x <= 122) = false /\ tagC c = false) \/ (decide (97 <= x) = false /\ tagC c = false)))))) := by
 obtain ⟨x, hx, ha⟩ := or32_ok c
 refine ⟨x, Lib.hid hx, ?_⟩
 clear hx
 unfold tagC
 rw [<- ha]
 by_cases h : c = 45
 · left; subst h; exact ⟨rfl, by simp⟩
 right
 refine ⟨byte_ne (d := 45) h, ?_⟩
 rw [beq_eq_false_iff_ne.2 h]
 by_cases h1 : 48 <= c.toNat
 · have e1 : decide (48 <= (c.toNat : Int)) = true := decide_eq_true (by omega)
   by_cases h2 : c.toNat <= 57
   · exact .inl ⟨e1, decide_eq_true (by omega), by simp [digC, h1, h2]⟩
   · right
     refine ⟨.inr ⟨e1, decide_eq_false (by omega)⟩, ?_⟩
     have hd : digC c = false := by simp [digC, h2]
     rw [hd]
     by_cases h3 : 97 <= x
     · by_cases h4 : x <= 122
       · exact .inl ⟨decide_eq_true h3, decide_eq_true h4, by simp [h3, h4]⟩
       · exact .inr (.inl ⟨decide_eq_true h3, decide_eq_false h4, by simp [h4]⟩)
     · exact .inr (.inr ⟨decide_eq_false h3, by simp [h3]⟩)
 · right
   refine ⟨.inl (decide_eq_false (by omega)), ?_⟩
   have hd : digC c = false := by simp [digC, h1]
   rw [hd]
   by_cases h3 : 97 <= x
   · by_cases h4 : x <= 122
     · exact .inl ⟨decide_eq_true h3, decide_eq_true h4, by simp [h3, h4]⟩
     · exact .inr (.inl ⟨decide_eq_true h3, decide_eq_false h4, by simp [h4]⟩)
   · exact .inr (.inr ⟨decide_eq_false h3, by simp [h3]⟩)
theorem cell_succ (w : World) (g o o' : Nat) (v : Value) : (w.setCell ⟨g + 1, o', none⟩ v).cell? ⟨g, o, none⟩ = w.cell? ⟨g, o, none⟩ := World.cell?_setCell_other _ _ _ _ (by simp)
structure Lang2 (w : World) (k tx ty la : Value) (W : World) : Prop where
 b : Below w.heap.size w W
 r : RowAt W w.heap.size [k, tx, ty, la]
 s : RowAt W (w.heap.size + 1) [.int .i64 0, .string ⟨#[]⟩, .string ⟨#[]⟩, .string ⟨#[]⟩]
theorem Lang2.z {w W : World} {k tx ty la : Value} (h : Lang2 w k tx ty la W) : w.heap.size + 1 < W.heap.size := World.block_lt_of_cell? _ _ (h.s.cell (j := 0) (by simp))
theorem Lang2.later {w W W' : World} {k tx ty la : Value} (h : Lang2 w k tx ty la W) (hb : Below W.heap.size W W') : Lang2 w k tx ty la W' :=
 ⟨h.b.trans (hb.mono h.b.size), h.r.below hb (by have := h.z; omega), h.s.below hb h.z⟩
theorem Lang2.mk0 {w : World} {k tx ty la : Value} {T S : TypeId} : Lang2 w k tx ty la ((w.alloc (.cells #[k, tx, ty, la] T)).alloc (.cells #[.int .i64 0, .string ⟨#[]⟩, .string ⟨#[]⟩, .string ⟨#[]⟩] S)) := by
 have h2 : Below (w.alloc (.cells #[k, tx, ty, la] T)).heap.size (w.alloc (.cells #[k, tx, ty, la] T)) ((w.alloc (.cells #[k, tx, ty, la] T)).alloc (.cells #[.int .i64 0, .string ⟨#[]⟩, .string ⟨#[]⟩, .string ⟨#[]⟩] S)) := (Below.refl _ _).alloc (Nat.le_refl _) _
 refine ⟨((Below.refl _ _).alloc (Nat.le_refl _) _).alloc (by simp) _, ?_, ?_⟩
 · refine RowAt.below ?_ h2 (by simp)
   exact rowAt_of_heap (heap_alloc_new _ _)
 · have := rowAt_of_heap (w := (w.alloc (.cells #[k, tx, ty, la] T)).alloc (.cells #[.int .i64 0, .string ⟨#[]⟩, .string ⟨#[]⟩, .string ⟨#[]⟩] S)) (L := [.int .i64 0, .string ⟨#[]⟩, .string ⟨#[]⟩, .string ⟨#[]⟩]) (t := S) (heap_alloc_new _ _)
   rwa [World.size_alloc] at this
theorem Lang2.cells {w W : World} {k tx ty la : Value} (h : Lang2 w k tx ty la W) : W.cell? ⟨w.heap.size, 0, none⟩ = some k /\ W.cell? ⟨w.heap.size, 1, none⟩ = some tx /\ W.cell? ⟨w.heap.size, 2, none⟩ = some ty /\ W.cell? ⟨w.heap.size, 3, none⟩ = some la /\
   W.frozen? ⟨w.heap.size, 2, none⟩ = false /\ W.frozen? ⟨w.heap.size, 3, none⟩ = false /\
   W.cell? ⟨w.heap.size + 1, 0, none⟩ = some (.int .i64 0) /\ W.cell? ⟨w.heap.size + 1, 1, none⟩ = some (.string ⟨#[]⟩) /\ W.cell? ⟨w.heap.size + 1, 2, none⟩ = some (.string ⟨#[]⟩) /\ W.cell? ⟨w.heap.size + 1, 3, none⟩ = some (.string ⟨#[]⟩) /\
   W.frozen? ⟨w.heap.size + 1, 0, none⟩ = false /\ W.frozen? ⟨w.heap.size + 1, 1, none⟩ = false /\ W.frozen? ⟨w.heap.size + 1, 2, none⟩ = false /\ W.frozen? ⟨w.heap.size + 1, 3, none⟩ = false :=
 ⟨h.r.cell (j := 0) (by simp), h.r.cell (j := 1) (by simp), h.r.cell (j := 2) (by simp), h.r.cell (j := 3) (by simp), h.r.free (j := 2) (by simp), h.r.free (j := 3) (by simp),
   h.s.cell (j := 0) (by simp), h.s.cell (j := 1) (by simp), h.s.cell (j := 2) (by simp), h.s.cell (j := 3) (by simp), h.s.free (j := 0) (by simp), h.s.free (j := 1) (by simp), h.s.free (j := 2) (by simp), h.s.free (j := 3) (by simp)⟩
theorem below_set4R {w W : World} {R : Nat} (hb : Below w.heap.size w W) (hR : w.heap.size <= R) (a b c d : Value) : Below w.heap.size w (set4 W R a b c d) :=
 (((hb.setCell hR _).setCell hR _).setCell hR _).setCell hR _
theorem lang_err {w W : World} {p : Nat} {P n : Int} {x : (TermL × Nat) ⊕ (Nat × Int)} (hb : Below w.heap.size w W) (hx : x = .inr (p, n)) (hP : (p : Int) = P) (a b c d : Value) (k m : Int) (s1 s2 s3 : List UInt8) :
   NextOut ((set4 W (w.heap.size + 1) a b c d).alloc (.cells #[.int .i64 P, .iface 28 (.int .i64 n)] 79)) (.returned (.tuple #[.agg #[.int .i64 k, .string (B s1), .string (B s2), .string (B s3)], .int .i64 m, .iface 77 (.pointer (some ⟨W.heap.size, 0, none⟩))])) x /\ Below w.heap.size w ((set4 W (w.heap.size + 1) a b c d).alloc (.cells #[.int .i64 P, .iface 28 (.int .i64 n)] 79)) := by
 subst hP
 have hb2 := below_set4R (R := w.heap.size + 1) hb (by omega) a b c d
 refine ⟨nextOut_bad hx ?_, hb2.alloc hb2.size _⟩
 have h := err_new (set4 W (w.heap.size + 1) a b c d) p n
 have e : (set4 W (w.heap.size + 1) a b c d).heap.size = W.heap.size := by simp [set4]
 rw [e] at h
 exact h
def tagMore (l : List UInt8) (j : Nat) : Bool := decide (j < l.length) && tagC (l.getD j 0)
set_option maxHeartbeats 3200000 in
theorem language_l (t : TermL) (l : List UInt8) (i : Nat) (w : World) (hM : MaxAt w) (hl : l.length <= 16777216) (hi : i < l.length) :
   Calls Tryz.prog 252 #[termV t, .string (B l), .int .i64 (i : Int)] w fun e w' => NextOut w' e (lanT t (tagAt l i)) /\ Below w.heap.size w w' := by
 have AT := Lib.hid termAtErr_l
 obtain ⟨k, tx, ty, la⟩ := t
 unfold termV
 simp only
 obtain ⟨g, hg⟩ : ∃ g, tagE l (i + 1) = g := ⟨_, rfl⟩
 have hgb := tagE_bound l l.length (i + 1) (by omega) (by omega)
 rw [hg] at hgb
 have HG := Lib.hid hg
 have HT : Hid (tagAt l i = if 65536 < (cutF l (i + 1) g).length then .inr (i, 2) else if (tagF (cutF l (i + 1) g)).isNone = true then .inr (i + 1, 61) else .inl (lowL (cutF l (i + 1) g), g)) := Lib.hid (by unfold tagAt; rw [hg])
 clear hg
 go_enter Tryz.func252, Tryz.ntmps252
 go_wp2_with fail
 generalize hW : (World.alloc (w.alloc (.cells #[.int .i64 k, .string (B tx), .string (B ty), .string (B la)] 54)) (.cells #[.int .i64 0, .string ⟨#[]⟩, .string ⟨#[]⟩, .string ⟨#[]⟩] 54)) = W
 have HW := Lib.hid hW
 clear hW
 go_loop [9] (fun s => ∃ j : Nat, i + 1 <= j /\ j <= l.length /\ s = .int .i64 j /\ Hid (tagE l j = g)) (fun s => l.length - (intOf s).toNat)
 case atStart => exact ⟨i + 1, Nat.le_refl _, hi, by go_num, HG⟩
 case round =>
   obtain ⟨j, hj0, hj, rfl, HJ⟩ := hrel
   go_upto_region 2 with fail
   go_cut [50] from 15 to 52 (fun s wx => s = .bool (tagMore l j) /\ wx = W)
   case first =>
     by_cases hlt : j < l.length
     · obtain ⟨x, HX, ht⟩ := tag_tests l[j]
       have HM : Hid (tagMore l j = tagC l[j]) := Lib.hid (by unfold tagMore; rw [decide_eq_true hlt, getD_at hlt]; rfl)
       obtain ⟨c, hc⟩ : ∃ c, tagC l[j] = c := ⟨_, rfl⟩
       rw [hc] at ht HM
       clear hc
       have hx := HX.out
       rcases ht with ⟨e1, rfl⟩ | ⟨e1, ⟨e2, e3, rfl⟩ | ⟨e2 | ⟨e2, e3⟩, ⟨e4, e5, rfl⟩ | ⟨e4, e5, rfl⟩ | ⟨e4, rfl⟩⟩⟩
       all_goals
         go_wp2_with fail
         go_meet
         case rel => exact ⟨by rw [HM.out], rfl⟩
     · have HM : Hid (tagMore l j = false) := Lib.hid (by unfold tagMore; rw [decide_eq_false hlt]; rfl)
       have e1 : decide (j < l.length) = false := decide_eq_false hlt
       have e1' : decide ((j : Int) < (l.length : Int)) = false := decide_eq_false (by omega)
       go_wp2_with fail
       go_meet
       case rel => exact ⟨by rw [HM.out], rfl⟩
   case rest =>
     obtain ⟨rfl, rfl⟩ := hcut
     have hb : tagMore l j = true -> j < l.length /\ Hid (tagE l (j + 1) = g) := fun h => by
       unfold tagMore at h
       rw [Bool.and_eq_true, decide_eq_true_eq] at h
       exact ⟨h.1, Lib.hid (by rw [<- tagE_go h.1 h.2]; exact HJ.out)⟩
     have hb2 : tagMore l j = false -> j = g := fun h => by
       unfold tagMore at h
       by_cases hlt : j < l.length
       · rw [decide_eq_true hlt] at h
         rw [<- HJ.out, tagE_stop hlt (by simpa using h)]
       · rw [<- HJ.out, tagE_end (by omega)]
     obtain ⟨b, hbb⟩ : ∃ b, tagMore l j = b := ⟨_, rfl⟩
     rw [hbb] at hb hb2 ⊢
     clear hbb HJ
     cases b with
     | true =>
       obtain ⟨hlt, HE⟩ := hb rfl
       clear hb hb2
       go_wp2_with fail
       go_round
       case rel => exact ⟨j + 1, by omega, hlt, by go_num, HE⟩
       case measure => simp [intOf]; omega
     | false =>
       obtain rfl := hb2 rfl
       clear hb hb2
       have hL2 : Lang2 w (.int .i64 k) (.string (B tx)) (.string (B ty)) (.string (B la)) wc := by rw [<- HW.out]; exact Lang2.mk0
       have HL := Lib.hid hL2
       clear hL2
       have hlen : ((l.drop (i + 1)).take (j - (i + 1))).length = j - (i + 1) := by simp; omega
       obtain ⟨x, hx⟩ : ∃ x, (l.drop (i + 1)).take (j - (i + 1)) = x := ⟨_, rfl⟩
       have HX : Hid (cutF l (i + 1) j = x) := Lib.hid hx
       rw [HX.out] at HT
       have HX2 := Lib.hid hx
       rw [hx] at hlen
       have hlx : x.length <= 16777216 := by omega
       clear hx hlen
       go_upto_region 5 with fail
       rw [HX2.out]
       by_cases hbig : 65536 < x.length
       · have e1 : decide ((65536 : Int) < (x.length : Int)) = true := decide_eq_true (by omega)
         have HE : Hid (tagAt l i = .inr (i, 2)) := Lib.hid (by rw [HT.out, if_pos hbig])
         obtain ⟨c0, c1, c2, c3, f2, f3, d0, d1, d2, d3, g0, g1, g2, g3⟩ := HL.out.cells
         have hz := HL.out.z
         have hz1 : w.heap.size < wc.heap.size := by omega
         clear hbig HT
         go_wp2_with fail
         go_region_held3 (fun w' => w'.cell? ⟨w.heap.size, 0, none⟩ = some (.int .i64 k) /\ w'.cell? ⟨w.heap.size, 1, none⟩ = some (.string (B tx)) /\ w'.cell? ⟨w.heap.size, 2, none⟩ = some (.string (B ty)) /\ w'.cell? ⟨w.heap.size, 3, none⟩ = some (.string (B la))) (first | (with_reducible exact ⟨c0, c1, c2, c3⟩) | (refine ⟨?_, ?_, ?_, ?_⟩ <;> simp [World.cell?_alloc_lt, cell_succ, hz1, c0, c1, c2, c3]))
           ((go_at_call 247; refine (AT.out _ _ _).mono ?_; rintro e w4 ⟨rfl, rfl⟩))
         go_wp2_with fail
         refine bodyPost_ret (v := .tuple #[.agg #[.int .i64 k, .string (B tx), .string (B ty), .string (B la)], .int .i64 0, .iface 77 (.pointer (some ⟨wc.heap.size, 0, none⟩))]) (by simp [results, Tryz.results252, go_sem, d0, d1, d2, d3, hz]) rfl ?_
         have hfin := lang_err (w := w) (W := wc) (x := lanT ⟨k, tx, ty, la⟩ (tagAt l i)) (p := i) (P := (i : Int)) (n := 2) HL.out.b (by rw [HE.out]; rfl) (by omega) (.int .i64 k) (.string (B tx)) (.string (B ty)) (.string (B la)) k 0 tx ty la
         exact ⟨hfin.1, hfin.2.drew⟩
       have e1 : decide ((65536 : Int) < (x.length : Int)) = false := decide_eq_false (by omega)
       rw [if_neg hbig] at HT
       have hxs : x.length <= 65536 := by omega
       clear hbig
       have TG := Lib.hid (tag_l x wc (hM.below HL.out.b) (by omega))
       cases ht : tagF x with
       | none =>
         rw [ht] at TG HT
         have HE : Hid (tagAt l i = .inr (i + 1, 61)) := Lib.hid (by rw [HT.out]; rfl)
         clear HT ht
         go_wp2_with (go_at_call 137; (refine TG.out.mono ?_); rintro e w3 ⟨rfl, hb3⟩; have HLT := Lib.hid (HL.out.later hb3); clear hb3; simp only [tagCells, noTag])
         have hL3 := HLT.out.later ((Below.refl _ _).alloc (Nat.le_refl _) (.cells #[.string (B []), .string (B []), .string (B []), .string (B []), .slice none 0 0, .slice none 0 0, .string (B [])] 209))
         generalize w3.alloc (.cells #[.string (B []), .string (B []), .string (B []), .string (B []), .slice none 0 0, .slice none 0 0, .string (B [])] 209) = V at *
         have HL3 := Lib.hid hL3
         clear hL3
         obtain ⟨c0, c1, c2, c3, f2, f3, d0, d1, d2, d3, g0, g1, g2, g3⟩ := HL3.out.cells
         have hz := HL3.out.z
         have hz1 : w.heap.size < V.heap.size := by omega
         have hi1 : IntKind.i64.wrap ((i : Int) + 1) = (i : Int) + 1 := IntWalk.i64_in _ (by omega)
         go_wp2_with fail
         go_region_held3 (fun w' => w'.cell? ⟨w.heap.size, 0, none⟩ = some (.int .i64 k) /\ w'.cell? ⟨w.heap.size, 1, none⟩ = some (.string (B tx)) /\ w'.cell? ⟨w.heap.size, 2, none⟩ = some (.string (B ty)) /\ w'.cell? ⟨w.heap.size, 3, none⟩ = some (.string (B la))) (first | (with_reducible exact ⟨c0, c1, c2, c3⟩) | (refine ⟨?_, ?_, ?_, ?_⟩ <;> simp [World.cell?_alloc_lt, cell_succ, hz1, c0, c1, c2, c3]))
           ((go_at_call 247; refine (AT.out _ _ _).mono ?_; rintro e w4 ⟨rfl, rfl⟩))
         go_wp2_with fail
         refine bodyPost_ret (v := .tuple #[.agg #[.int .i64 k, .string (B tx), .string (B ty), .string (B la)], .int .i64 0, .iface 77 (.pointer (some ⟨V.heap.size, 0, none⟩))]) (by simp [results, Tryz.results252, go_sem, d0, d1, d2, d3, hz]) rfl ?_
         have hfin := lang_err (w := w) (W := V) (x := lanT ⟨k, tx, ty, la⟩ (tagAt l i)) (p := i + 1) (P := ((i : Int) + 1)) (n := 61) HL3.out.b (by rw [HE.out]; rfl) (by omega) (.int .i64 k) (.string (B tx)) (.string (B ty)) (.string (B la)) k 0 tx ty la
         exact ⟨hfin.1, hfin.2.drew⟩
       | some tg =>
         rw [ht] at TG HT
         have LO := Lib.hid (fun u => lower_l x u (by unfold maxLen; omega))
         have HE : Hid (lanT ⟨k, tx, ty, la⟩ (tagAt l i) = .inl (⟨k, tx, tagged, lowL x⟩, j)) := Lib.hid (by rw [HT.out]; rfl)
         clear HT ht
         go_wp2_with (go_at_call 137; (refine TG.out.mono ?_); rintro e w3 ⟨a1, a2, q1, q2, rfl, hb3, _⟩; have HLT := Lib.hid (HL.out.later hb3); clear hb3; simp only [tagCells])
         have hL3 := HLT.out.later ((Below.refl _ _).alloc (Nat.le_refl _) (.cells #[.string (B tg.lang), .string (B tg.ext), .string (B tg.script), .string (B tg.region), .slice a1 tg.vars.length q1, .slice a2 tg.exts.length q2, .string (B tg.priv)] 209))
         generalize w3.alloc (.cells #[.string (B tg.lang), .string (B tg.ext), .string (B tg.script), .string (B tg.region), .slice a1 tg.vars.length q1, .slice a2 tg.exts.length q2, .string (B tg.priv)] 209) = V at *
         have HL3 := Lib.hid hL3
         clear hL3
         obtain ⟨lo, hlo⟩ : ∃ lo, lowL x = lo := ⟨_, rfl⟩
         rw [hlo] at LO HE
         clear hlo
         go_wp2_with (go_at_call 138; (with_reducible refine (LO.out _).mono ?_); rintro e w5 ⟨rfl, hb5⟩; have HL5 := Lib.hid (HL3.out.later hb5); clear hb5; obtain ⟨c0, c1, c2, c3, f2, f3, d0, d1, d2, d3, g0, g1, g2, g3⟩ := HL5.out.cells; have hz := HL5.out.z; have hz1 : w.heap.size < w5.heap.size := by omega)
         refine bodyPost_ret (v := .tuple #[.agg #[.int .i64 k, .string (B tx), .string (B tagged), .string (B lo)], .int .i64 (j : Int), .nilIface]) (by simp [results, Tryz.results252, go_sem, d0, d1, d2, d3, tagged, B]) rfl ?_
         refine ⟨by rw [HE.out]; rfl, ?_⟩
         have hb := (HL5.out.b.setCell (p := ⟨w.heap.size, 2, none⟩) (Nat.le_refl _) (.string (B tagged))).setCell (p := ⟨w.heap.size, 3, none⟩) (Nat.le_refl _) (.string (B lo))
         exact below_set4R hb (by omega) _ _ _ _
end Go.Proofs.YtmnigckpejcaeaaGreatDoor
namespace Go.Proofs.YtmnigckpejcaeaaGreatDoor
open Go.RowKit
set_option maxRecDepth 100000
theorem closing_ok {l : List UInt8} {i p : Nat} (h : closeF l (i + 1) false = .inl p) (hl : l.length <= 4611686018427387904) (hi : i < l.length) (w : World) :
   Calls Tryz.prog 250 #[.string (B l), .int .i64 (i : Int)] w fun e w' => e = .returned (.tuple #[.int .i64 (p : Int), .nilIface]) /\ Below w.heap.size w w' :=
 (closing_l l i w hl hi).mono fun e w' => by
   rw [h]
   rintro ⟨rfl, hb⟩
   exact ⟨rfl, hb⟩
theorem closing_bad {l : List UInt8} {i p : Nat} {n : Int} (h : closeF l (i + 1) false = .inr (p, n)) (hl : l.length <= 4611686018427387904) (hi : i < l.length) (w : World) :
   Calls Tryz.prog 250 #[.string (B l), .int .i64 (i : Int)] w fun e w' => ∃ b, e = .returned (.tuple #[.int .i64 0, .iface 77 (.pointer (some ⟨b, 0, none⟩))]) /\ ErrIs w' (.iface 77 (.pointer (some ⟨b, 0, none⟩))) (.inr (p, n)) /\ Below w.heap.size w w' :=
 (closing_l l i w hl hi).mono fun e w' => by
   rw [h]
   rintro ⟨⟨b, rfl, h1, h2⟩, hb⟩
   exact ⟨b, rfl, ⟨b, rfl, h1, h2⟩, hb⟩
theorem gd0 (l : List UInt8) (b j : Nat) : (l.drop b).getD j 0 = l.getD (b + j) 0 := by
 rw [List.getD_eq_getElem?_getD, List.getD_eq_getElem?_getD, List.getElem?_drop]
theorem pre1 (c : UInt8) (hc : c ≠ 0) (l : List UInt8) (e : Nat) : Lib.hasPrefix (l.drop e) [c] = decide (l.getD e 0 = c) := by
 have h := gd0 l e 0
 rw [Nat.add_zero] at h
 rw [<- h]
 unfold Lib.hasPrefix
 cases l.drop e with
 | nil => simp [List.isPrefixOf, hc.symm]
 | cons a t =>
   simp only [List.isPrefixOf, List.getD_cons_zero, Bool.and_true]
   by_cases h : a = c
   · simp [h]
   · rw [beq_eq_false_iff_ne.2 (fun e => h e.symm), decide_eq_false h]
theorem pre2 (c d : UInt8) (hc : c ≠ 0) (hd : d ≠ 0) (l : List UInt8) (e : Nat) : Lib.hasPrefix (l.drop e) [c, d] = decide (l.getD e 0 = c /\ l.getD (e + 1) 0 = d) := by
 have h := gd0 l e 0
 have h2 := gd0 l e 1
 rw [Nat.add_zero] at h
 rw [<- h, <- h2]
 unfold Lib.hasPrefix
 rcases l.drop e with _ | ⟨a, _ | ⟨b, t⟩⟩
 · simp [List.isPrefixOf, hc.symm]
 · simp [List.isPrefixOf, hd.symm]
 · simp only [List.isPrefixOf, List.getD_cons_zero, List.getD_cons_succ, Bool.and_true]
   by_cases h : a = c <;> by_cases h3 : b = d
   · simp [h, h3]
   · rw [decide_eq_false (fun x => h3 x.2), beq_eq_false_iff_ne.2 (fun e => h3 e.symm)]; simp
   · rw [decide_eq_false (fun x => h x.1), beq_eq_false_iff_ne.2 (fun e => h e.symm)]; simp
   · rw [decide_eq_false (fun x => h x.1), beq_eq_false_iff_ne.2 (fun e => h e.symm)]; simp
theorem NextOut.alloc {w : World} {e : Ending} {x : (TermL × Nat) ⊕ (Nat × Int)} (h : NextOut w e x) (o : Obj) : NextOut (w.alloc o) e x := by
 rcases x with ⟨t, n⟩ | ⟨p, c⟩
 · exact h
 · obtain ⟨t, n, v, he, hv⟩ := h
   exact ⟨t, n, v, he, hv.below ((Below.refl _ _).alloc (Nat.le_refl _) _)⟩
theorem err_setL {w : World} {v : Value} {p g o : Nat} {n : Int} {s : ByteArray} {u : Value} (h1 : w.cell? ⟨g, 1, none⟩ = some (.string s)) (h : ErrIs w v (.inr (p, n))) : ErrIs (w.setCell ⟨g, o, none⟩ u) v (.inr (p, n)) := by
 refine err_set h ?_
 rintro b rfl rfl
 obtain ⟨b, hb, _, h2⟩ := h
 cases hb
 rw [h1] at h2
 cases h2
theorem hasPre {l : List UInt8} {e : Nat} {p : ByteArray} {b : Bool} (h : Lib.hasPrefix (l.drop e) p.data.toList = b) (u : World) :
   Calls Tryz.prog 251 #[.string (B (l.drop e)), .string p] u fun e w' => e = .returned (.bool b) /\ w' = u := by
 have := Tryz.strings_HasPrefix (B (l.drop e)) p u
 rw [B_toList, h] at this
 exact this
theorem cell_pred (w : World) (g o o' : Nat) (v : Value) : (w.setCell ⟨g, o', none⟩ v).cell? ⟨g + 1, o, none⟩ = w.cell? ⟨g + 1, o, none⟩ := World.cell?_setCell_other _ _ _ _ (by simp)
theorem Lang2.all {w W : World} {k tx ty la : Value} (h : Lang2 w k tx ty la W) : (W.cell? ⟨w.heap.size + 1, 0, none⟩ = some (.int .i64 0) /\ W.cell? ⟨w.heap.size + 1, 1, none⟩ = some (.string ⟨#[]⟩) /\ W.cell? ⟨w.heap.size + 1, 2, none⟩ = some (.string ⟨#[]⟩) /\ W.cell? ⟨w.heap.size + 1, 3, none⟩ = some (.string ⟨#[]⟩)) /\ (W.cell? ⟨w.heap.size, 0, none⟩ = some k /\ W.cell? ⟨w.heap.size, 1, none⟩ = some tx /\ W.cell? ⟨w.heap.size, 2, none⟩ = some ty /\ W.cell? ⟨w.heap.size, 3, none⟩ = some la) /\ (W.frozen? ⟨w.heap.size, 0, none⟩ = false /\ W.frozen? ⟨w.heap.size, 1, none⟩ = false /\ W.frozen? ⟨w.heap.size, 2, none⟩ = false /\ W.frozen? ⟨w.heap.size, 3, none⟩ = false) :=
 ⟨⟨h.s.cell (j := 0) (by simp), h.s.cell (j := 1) (by simp), h.s.cell (j := 2) (by simp), h.s.cell (j := 3) (by simp)⟩, ⟨h.r.cell (j := 0) (by simp), h.r.cell (j := 1) (by simp), h.r.cell (j := 2) (by simp), h.r.cell (j := 3) (by simp)⟩, ⟨h.r.free (j := 0) (by simp), h.r.free (j := 1) (by simp), h.r.free (j := 2) (by simp), h.r.free (j := 3) (by simp)⟩⟩
theorem Lang2.s4 {w W : World} {k tx ty la : Value} (h : Lang2 w k tx ty la W) : W.cell? ⟨w.heap.size + 1, 0, none⟩ = some (.int .i64 0) /\ W.cell? ⟨w.heap.size + 1, 1, none⟩ = some (.string ⟨#[]⟩) /\ W.cell? ⟨w.heap.size + 1, 2, none⟩ = some (.string ⟨#[]⟩) /\ W.cell? ⟨w.heap.size + 1, 3, none⟩ = some (.string ⟨#[]⟩) := ⟨h.s.cell (j := 0) (by simp), h.s.cell (j := 1) (by simp), h.s.cell (j := 2) (by simp), h.s.cell (j := 3) (by simp)⟩
theorem err_set4L {w W : World} {v : Value} {p : Nat} {n : Int} {s : ByteArray} (h1 : W.cell? ⟨w.heap.size, 1, none⟩ = some (.string s)) (h : ErrIs W v (.inr (p, n))) (a b c d : Value) : ErrIs (set4 W w.heap.size a b c d) v (.inr (p, n)) := by
 have hne : ∀ b, v = .iface 77 (.pointer (some ⟨b, 0, none⟩)) -> b ≠ w.heap.size := by
   rintro b rfl rfl
   obtain ⟨b, hb, _, h2⟩ := h
   cases hb
   rw [h1] at h2
   cases h2
 exact err_set (err_set (err_set (err_set h hne) hne) hne) hne
theorem lit_err {w W : World} {v : Value} {p : Nat} {n : Int} {x : (TermL × Nat) ⊕ (Nat × Int)} {s : ByteArray} (hb : Below w.heap.size w W) (h1 : W.cell? ⟨w.heap.size, 1, none⟩ = some (.string s)) (h : ErrIs W v (.inr (p, n))) (hx : x = .inr (p, n)) (a b c d : Value) (k m : Int) (s1 s2 s3 : List UInt8) :
   NextOut (set4 W w.heap.size a b c d) (.returned (.tuple #[.agg #[.int .i64 k, .string (B s1), .string (B s2), .string (B s3)], .int .i64 m, v])) x /\ Below w.heap.size w (set4 W w.heap.size a b c d) :=
 ⟨nextOut_bad hx (err_set4L h1 h a b c d), below_set4 hb a b c d⟩
set_option maxHeartbeats 3200000 in
theorem nextLit_typed (l t : List UInt8) (i p : Nat) (w : World) (hl : l.length <= 16777216) (hi : i < l.length)
   (CL0 : ∀ u, Calls Tryz.prog 250 #[.string (B l), .int .i64 (i : Int)] u fun e w' => e = .returned (.tuple #[.int .i64 (p : Int), .nilIface]) /\ Below u.heap.size u w')
   (UN0 : ∀ u, Calls Tryz.prog 248 #[.string (B (cutF l (i + 1) p)), .int .i64 1] u fun e w' => e = .returned (.tuple #[.string (B t), .nilIface]) /\ Below u.heap.size u w')
   (_htl : t.length <= 67108864) (hp0 : i + 1 <= p) (_hp1 : p < l.length) (e1 : decide ((65536 : Int) < (t.length : Int)) = false)
   (H640 : ∀ u, Calls Tryz.prog 251 #[.string (B (l.drop (p + 1))), .string ⟨#[64]⟩] u fun e w' => e = .returned (.bool false) /\ w' = u)
   (H940 : ∀ u, Calls Tryz.prog 251 #[.string (B (l.drop (p + 1))), .string ⟨#[94, 94]⟩] u fun e w' => e = .returned (.bool true) /\ w' = u)
   (H600 : ∀ u, Calls Tryz.prog 251 #[.string (B (l.drop (p + 3))), .string ⟨#[60]⟩] u fun e w' => e = .returned (.bool true) /\ w' = u)
   (_hlt : p + 2 < l.length) (hl3 : p + 3 < l.length) (h60 : l.getD (p + 3) 0 = 60)
   (HB2 : litAt l i = (match iriAt l (p + 3) with
       | .inr f => .inr f
       | .inl (ty, n) => if ty = tagged then .inr (p + 1, 71) else .inl (⟨3, t, ty, []⟩, n))) :
   Calls Tryz.prog 235 #[.string (B l), .int .i64 (i : Int)] w fun e w' => NextOut w' e (litAt l i) /\ Below w.heap.size w w' := by
 have AT := Lib.hid termAtErr_l
 have CL := Lib.hid CL0
 have UN := Lib.hid UN0
 have H64 := Lib.hid H640
 have H94 := Lib.hid H940
 have H60 := Lib.hid H600
 have HCUT : Hid ((l.drop (i + 1)).take (p - (i + 1)) = cutF l (i + 1) p) := Lib.hid rfl
 have HL0 : Hid (Lang2 w (.int .i64 0) (.string ⟨#[]⟩) (.string ⟨#[]⟩) (.string ⟨#[]⟩) ((w.alloc (.cells #[.int .i64 0, .string ⟨#[]⟩, .string ⟨#[]⟩, .string ⟨#[]⟩] 54)).alloc (.cells #[.int .i64 0, .string ⟨#[]⟩, .string ⟨#[]⟩, .string ⟨#[]⟩] 54))) := Lib.hid Lang2.mk0
 cases hq : iriAt l (p + 3) with
 | inr f =>
   obtain ⟨q, n⟩ := f
   have NI : Hid (∀ u, Calls Tryz.prog 233 #[.string (B l), .int .i64 ((p : Int) + 1 + 2)] u fun e w' => (∃ k a b d n' eb, e = .returned (.tuple #[.agg #[.int .i64 k, .string (B a), .string (B b), .string (B d)], .int .i64 n', .iface 77 (.pointer (some ⟨eb, 0, none⟩))]) /\ ErrIs w' (.iface 77 (.pointer (some ⟨eb, 0, none⟩))) (.inr (q, n))) /\ Below u.heap.size u w') := Lib.hid (fun u => (nextIRI_l l (p + 3) u hl hl3 h60).mono fun e w' => by
     rw [hq]
     rintro ⟨⟨T, n', v, rfl, hv⟩, hb⟩
     have hv2 := hv
     obtain ⟨eb, rfl, _, _⟩ := hv
     exact ⟨⟨_, _, _, _, _, eb, rfl, hv2⟩, hb⟩)
   have HE : Hid (litAt l i = .inr (q, n)) := Lib.hid (by rw [HB2, hq])
   clear HB2 hq h60 CL0 UN0 H640 H940 H600
   go_enter Tryz.func235, Tryz.ntmps235
   go_upto_region 17 with (first | (go_at_call 250; (with_reducible refine (CL.out _).mono ?_); rintro e w1 ⟨rfl, hb⟩; have HL1 := Lib.hid (HL0.out.later hb); clear hb) | (go_at_call 248; rw [HCUT.out]; (with_reducible refine (UN.out _).mono ?_); rintro e w2 ⟨rfl, hb⟩; have HL2 := Lib.hid (HL1.out.later hb); clear hb) | (go_at_call 251; (with_reducible refine (H64.out _).mono ?_); rintro e w7 ⟨rfl, hw7⟩; obtain rfl := hw7.symm) | (go_at_call 251; (with_reducible refine (H94.out _).mono ?_); rintro e w7 ⟨rfl, hw7⟩; obtain rfl := hw7.symm) | (go_at_call 251; (with_reducible refine (H60.out _).mono ?_); rintro e w7 ⟨rfl, hw7⟩; obtain rfl := hw7.symm))
   generalize hV : w2.alloc (.cells #[.int .i64 3, .string (B t), .string { data := #[104, 116, 116, 112, 58, 47, 47, 119, 119, 119, 46, 119, 51, 46, 111, 114, 103, 47, 50, 48, 48, 49, 47, 88, 77, 76, 83, 99, 104, 101, 109, 97, 35, 115, 116, 114, 105, 110, 103] }, .string ⟨#[]⟩] 54) = V
   have hB2 : Below w2.heap.size w2 V := by rw [<- hV]; exact (Below.refl _ _).alloc (Nat.le_refl _) _
   have HL3 := Lib.hid (HL2.out.later hB2)
   have hrow : RowAt V w2.heap.size [.int .i64 3, .string (B t), .string { data := #[104, 116, 116, 112, 58, 47, 47, 119, 119, 119, 46, 119, 51, 46, 111, 114, 103, 47, 50, 48, 48, 49, 47, 88, 77, 76, 83, 99, 104, 101, 109, 97, 35, 115, 116, 114, 105, 110, 103] }, .string ⟨#[]⟩] := by rw [<- hV]; exact rowAt_of_heap (heap_alloc_new _ _)
   have l0 := hrow.cell (j := 0) (by simp)
   have l1 := hrow.cell (j := 1) (by simp)
   have l2 := hrow.cell (j := 2) (by simp)
   have l3 := hrow.cell (j := 3) (by simp)
   simp only [List.getElem_cons_zero, List.getElem_cons_succ] at l0 l1 l2 l3
   have HROW := Lib.hid hrow
   have hVl : w2.heap.size < V.heap.size := World.block_lt_of_cell? _ _ l0
   have hne1 : w2.heap.size ≠ w.heap.size := by have := HL2.out.z; omega
   have hne2 : w2.heap.size ≠ w.heap.size + 1 := by have := HL2.out.z; omega
   have hz2 := HL2.out.z
   clear hV hB2 hrow
   go_wp2_with (go_at_call 233; (with_reducible refine (NI.out _).mono ?_); rintro e w6 ⟨⟨k6, s5, s6, s7, n6, eb, rfl, he⟩, hb⟩; have HER := Lib.hid he; have HL6 := Lib.hid (HL3.out.later hb); have HR6 := Lib.hid (HROW.out.below hb hVl); clear he hb; obtain ⟨c0, c1, c2, c3, f2, f3, d0, d1, d2, d3, g0, g1, g2, g3⟩ := HL6.out.cells; have f0 := HL6.out.r.free (j := 0) (by simp); have f1 := HL6.out.r.free (j := 1) (by simp); have hz := HL6.out.z; have hz1 : w.heap.size < w6.heap.size := (by omega); have l0 := HR6.out.cell (j := 0) (by simp); have l1 := HR6.out.cell (j := 1) (by simp); have l2 := HR6.out.cell (j := 2) (by simp); have l3 := HR6.out.cell (j := 3) (by simp); have m2 := HR6.out.free (j := 2) (by simp); simp only [List.getElem_cons_zero, List.getElem_cons_succ] at l0 l1 l2 l3; have hVl6 : w2.heap.size < w6.heap.size := World.block_lt_of_cell? _ _ l0)
   refine bodyPost_ret (v := .tuple #[.agg #[.int .i64 3, .string (B t), .string (B s5), .string ⟨#[]⟩], .int .i64 n6, .iface 77 (.pointer (some ⟨eb, 0, none⟩))]) (by simp [results, Tryz.results235, go_sem, c0, c1, c2, c3, hz1]) rfl ?_
   have hg : (w6.setCell ⟨w2.heap.size, 2, none⟩ (.string (B s5))).cell? ⟨w.heap.size, 1, none⟩ = some (.string ⟨#[]⟩) := by rw [World.cell?_setCell_other _ _ _ _ (fun e => hne1 (congrArg Addr.block e))]; exact c1
   have hfin := lit_err (w := w) (W := w6.setCell ⟨w2.heap.size, 2, none⟩ (.string (B s5))) (x := litAt l i) (HL6.out.b.setCell (by simp only; omega) _) hg (err_setL l1 HER.out) HE.out (.int .i64 3) (.string (B t)) (.string (B s5)) (.string ⟨#[]⟩) 3 n6 t s5 []
   exact ⟨hfin.1.alloc _, hfin.2.alloc hfin.2.size _⟩
 | inl f =>
   obtain ⟨ty, n⟩ := f
   have NI : Hid (∀ u, Calls Tryz.prog 233 #[.string (B l), .int .i64 ((p : Int) + 1 + 2)] u fun e w' => e = .returned (.tuple #[.agg #[.int .i64 1, .string (B ty), .string ⟨#[]⟩, .string ⟨#[]⟩], .int .i64 (n : Int), .nilIface]) /\ Below u.heap.size u w') := Lib.hid (fun u => (nextIRI_l l (p + 3) u hl hl3 h60).mono fun e w' => by
     rw [hq]
     rintro ⟨rfl, hb⟩
     exact ⟨rfl, hb⟩)
   rw [hq] at HB2
   simp only at HB2
   by_cases hty : ty = tagged
   · have q5 : (ty == tagged) = true := beq_iff_eq.2 hty
     have HE : Hid (litAt l i = .inr (p + 1, 71)) := Lib.hid (by rw [HB2, if_pos hty])
     unfold tagged at q5
     clear HB2 hq h60 CL0 UN0 H640 H940 H600 hty
     go_enter Tryz.func235, Tryz.ntmps235
     go_upto_region 17 with (first | (go_at_call 250; (with_reducible refine (CL.out _).mono ?_); rintro e w1 ⟨rfl, hb⟩; have HL1 := Lib.hid (HL0.out.later hb); clear hb) | (go_at_call 248; rw [HCUT.out]; (with_reducible refine (UN.out _).mono ?_); rintro e w2 ⟨rfl, hb⟩; have HL2 := Lib.hid (HL1.out.later hb); clear hb) | (go_at_call 251; (with_reducible refine (H64.out _).mono ?_); rintro e w7 ⟨rfl, hw7⟩; obtain rfl := hw7.symm) | (go_at_call 251; (with_reducible refine (H94.out _).mono ?_); rintro e w7 ⟨rfl, hw7⟩; obtain rfl := hw7.symm) | (go_at_call 251; (with_reducible refine (H60.out _).mono ?_); rintro e w7 ⟨rfl, hw7⟩; obtain rfl := hw7.symm))
     generalize hV : w2.alloc (.cells #[.int .i64 3, .string (B t), .string { data := #[104, 116, 116, 112, 58, 47, 47, 119, 119, 119, 46, 119, 51, 46, 111, 114, 103, 47, 50, 48, 48, 49, 47, 88, 77, 76, 83, 99, 104, 101, 109, 97, 35, 115, 116, 114, 105, 110, 103] }, .string ⟨#[]⟩] 54) = V
     have hB2 : Below w2.heap.size w2 V := by rw [<- hV]; exact (Below.refl _ _).alloc (Nat.le_refl _) _
     have HL3 := Lib.hid (HL2.out.later hB2)
     have hrow : RowAt V w2.heap.size [.int .i64 3, .string (B t), .string { data := #[104, 116, 116, 112, 58, 47, 47, 119, 119, 119, 46, 119, 51, 46, 111, 114, 103, 47, 50, 48, 48, 49, 47, 88, 77, 76, 83, 99, 104, 101, 109, 97, 35, 115, 116, 114, 105, 110, 103] }, .string ⟨#[]⟩] := by rw [<- hV]; exact rowAt_of_heap (heap_alloc_new _ _)
     have l0 := hrow.cell (j := 0) (by simp)
     have l1 := hrow.cell (j := 1) (by simp)
     have l2 := hrow.cell (j := 2) (by simp)
     have l3 := hrow.cell (j := 3) (by simp)
     simp only [List.getElem_cons_zero, List.getElem_cons_succ] at l0 l1 l2 l3
     have HROW := Lib.hid hrow
     have hVl : w2.heap.size < V.heap.size := World.block_lt_of_cell? _ _ l0
     have hne1 : w2.heap.size ≠ w.heap.size := by have := HL2.out.z; omega
     have hne2 : w2.heap.size ≠ w.heap.size + 1 := by have := HL2.out.z; omega
     have hz2 := HL2.out.z
     clear hV hB2 hrow
     go_wp2_with (first | (go_at_call 233; (with_reducible refine (NI.out _).mono ?_); rintro e w6 ⟨rfl, hb⟩; have HL6 := Lib.hid (HL3.out.later hb); have HR6 := Lib.hid (HROW.out.below hb hVl); clear hb; obtain ⟨c0, c1, c2, c3, f2, f3, d0, d1, d2, d3, g0, g1, g2, g3⟩ := HL6.out.cells; have f0 := HL6.out.r.free (j := 0) (by simp); have f1 := HL6.out.r.free (j := 1) (by simp); have hz := HL6.out.z; have hz1 : w.heap.size < w6.heap.size := (by omega); have l0 := HR6.out.cell (j := 0) (by simp); have l1 := HR6.out.cell (j := 1) (by simp); have l2 := HR6.out.cell (j := 2) (by simp); have l3 := HR6.out.cell (j := 3) (by simp); have m2 := HR6.out.free (j := 2) (by simp); simp only [List.getElem_cons_zero, List.getElem_cons_succ] at l0 l1 l2 l3; have hVl6 : w2.heap.size < w6.heap.size := World.block_lt_of_cell? _ _ l0) | (go_at_call 247; refine (AT.out _ _ _).mono ?_; rintro e w4 ⟨rfl, rfl⟩))
     refine bodyPost_ret (v := .tuple #[.agg #[.int .i64 3, .string (B t), .string (B ty), .string ⟨#[]⟩], .int .i64 (n : Int), .iface 77 (.pointer (some ⟨w6.heap.size + 1, 0, none⟩))]) (by simp [results, Tryz.results235, go_sem, c0, c1, c2, c3, hz1]) rfl ?_
     have hB6 := (below_set4 (HL6.out.b.setCell (p := ⟨w2.heap.size, 2, none⟩) (by simp only; omega) (.string (B ty))) (.int .i64 3) (.string (B t)) (.string (B ty)) (.string ⟨#[]⟩)).alloc (by simp [set4]; omega) (.cells #[.int .i64 1, .string (B ty), .string ⟨#[]⟩, .string ⟨#[]⟩] 54)
     have hsz : ((set4 (w6.setCell ⟨w2.heap.size, 2, none⟩ (.string (B ty))) w.heap.size (.int .i64 3) (.string (B t)) (.string (B ty)) (.string ⟨#[]⟩)).alloc (.cells #[.int .i64 1, .string (B ty), .string ⟨#[]⟩, .string ⟨#[]⟩] 54)).heap.size = w6.heap.size + 1 := by simp [set4]
     have herr := err_new ((set4 (w6.setCell ⟨w2.heap.size, 2, none⟩ (.string (B ty))) w.heap.size (.int .i64 3) (.string (B t)) (.string (B ty)) (.string ⟨#[]⟩)).alloc (.cells #[.int .i64 1, .string (B ty), .string ⟨#[]⟩, .string ⟨#[]⟩] 54)) (p + 1) 71
     rw [hsz] at herr
     exact ⟨nextOut_bad (a := t) (b := ty) (d := []) HE.out herr, hB6.alloc hB6.size _⟩
   · have q5 : (ty == tagged) = false := beq_eq_false_iff_ne.2 hty
     have HE : Hid (litAt l i = .inl (⟨3, t, ty, []⟩, n)) := Lib.hid (by rw [HB2, if_neg hty])
     unfold tagged at q5
     clear HB2 hq h60 CL0 UN0 H640 H940 H600 hty
     go_enter Tryz.func235, Tryz.ntmps235
     go_upto_region 17 with (first | (go_at_call 250; (with_reducible refine (CL.out _).mono ?_); rintro e w1 ⟨rfl, hb⟩; have HL1 := Lib.hid (HL0.out.later hb); clear hb) | (go_at_call 248; rw [HCUT.out]; (with_reducible refine (UN.out _).mono ?_); rintro e w2 ⟨rfl, hb⟩; have HL2 := Lib.hid (HL1.out.later hb); clear hb) | (go_at_call 251; (with_reducible refine (H64.out _).mono ?_); rintro e w7 ⟨rfl, hw7⟩; obtain rfl := hw7.symm) | (go_at_call 251; (with_reducible refine (H94.out _).mono ?_); rintro e w7 ⟨rfl, hw7⟩; obtain rfl := hw7.symm) | (go_at_call 251; (with_reducible refine (H60.out _).mono ?_); rintro e w7 ⟨rfl, hw7⟩; obtain rfl := hw7.symm))
     generalize hV : w2.alloc (.cells #[.int .i64 3, .string (B t), .string { data := #[104, 116, 116, 112, 58, 47, 47, 119, 119, 119, 46, 119, 51, 46, 111, 114, 103, 47, 50, 48, 48, 49, 47, 88, 77, 76, 83, 99, 104, 101, 109, 97, 35, 115, 116, 114, 105, 110, 103] }, .string ⟨#[]⟩] 54) = V
     have hB2 : Below w2.heap.size w2 V := by rw [<- hV]; exact (Below.refl _ _).alloc (Nat.le_refl _) _
     have HL3 := Lib.hid (HL2.out.later hB2)
     have hrow : RowAt V w2.heap.size [.int .i64 3, .string (B t), .string { data := #[104, 116, 116, 112, 58, 47, 47, 119, 119, 119, 46, 119, 51, 46, 111, 114, 103, 47, 50, 48, 48, 49, 47, 88, 77, 76, 83, 99, 104, 101, 109, 97, 35, 115, 116, 114, 105, 110, 103] }, .string ⟨#[]⟩] := by rw [<- hV]; exact rowAt_of_heap (heap_alloc_new _ _)
     have l0 := hrow.cell (j := 0) (by simp)
     have l1 := hrow.cell (j := 1) (by simp)
     have l2 := hrow.cell (j := 2) (by simp)
     have l3 := hrow.cell (j := 3) (by simp)
     simp only [List.getElem_cons_zero, List.getElem_cons_succ] at l0 l1 l2 l3
     have HROW := Lib.hid hrow
     have hVl : w2.heap.size < V.heap.size := World.block_lt_of_cell? _ _ l0
     have hne1 : w2.heap.size ≠ w.heap.size := by have := HL2.out.z; omega
     have hne2 : w2.heap.size ≠ w.heap.size + 1 := by have := HL2.out.z; omega
     have hz2 := HL2.out.z
     clear hV hB2 hrow
     go_wp2_with (go_at_call 233; (with_reducible refine (NI.out _).mono ?_); rintro e w6 ⟨rfl, hb⟩; have HL6 := Lib.hid (HL3.out.later hb); have HR6 := Lib.hid (HROW.out.below hb hVl); clear hb; obtain ⟨c0, c1, c2, c3, f2, f3, d0, d1, d2, d3, g0, g1, g2, g3⟩ := HL6.out.cells; have f0 := HL6.out.r.free (j := 0) (by simp); have f1 := HL6.out.r.free (j := 1) (by simp); have hz := HL6.out.z; have hz1 : w.heap.size < w6.heap.size := (by omega); have l0 := HR6.out.cell (j := 0) (by simp); have l1 := HR6.out.cell (j := 1) (by simp); have l2 := HR6.out.cell (j := 2) (by simp); have l3 := HR6.out.cell (j := 3) (by simp); have m2 := HR6.out.free (j := 2) (by simp); simp only [List.getElem_cons_zero, List.getElem_cons_succ] at l0 l1 l2 l3; have hVl6 : w2.heap.size < w6.heap.size := World.block_lt_of_cell? _ _ l0)
     refine bodyPost_ret (v := .tuple #[.agg #[.int .i64 3, .string (B t), .string (B ty), .string ⟨#[]⟩], .int .i64 (n : Int), .nilIface]) (by simp [results, Tryz.results235, go_sem, c0, c1, c2, c3, hz1]) rfl ?_
     have hfin := next_ok (w := w) (W := w6.setCell ⟨w2.heap.size, 2, none⟩ (.string (B ty))) (t := ⟨3, t, ty, []⟩) (n := n) (N := (n : Int)) (x := litAt l i) (HL6.out.b.setCell (by simp only; omega) _) HE.out rfl (.int .i64 3) (.string (B t)) (.string (B ty)) (.string ⟨#[]⟩)
     exact ⟨hfin.1.alloc _, hfin.2.alloc hfin.2.size _⟩
end Go.Proofs.YtmnigckpejcaeaaGreatDoor
namespace Go.Proofs.YtmnigckpejcaeaaGreatDoor
open Go.RowKit
set_option maxRecDepth 100000
set_option maxHeartbeats 3200000 in
theorem nextLiteral_l (l : List UInt8) (i : Nat) (w : World) (hM : MaxAt w) (hl : l.length <= 16777216) (hi : i < l.length) :
   Calls Tryz.prog 235 #[.string (B l), .int .i64 (i : Int)] w fun e w' => NextOut w' e (litAt l i) /\ Below w.heap.size w w' := by
 have AT := Lib.hid termAtErr_l
 have KD := Lib.hid (fun W (h : Lang2 w (.int .i64 0) (.string ⟨#[]⟩) (.string ⟨#[]⟩) (.string ⟨#[]⟩) W) => h.s4)
 have HL0 : Hid (Lang2 w (.int .i64 0) (.string ⟨#[]⟩) (.string ⟨#[]⟩) (.string ⟨#[]⟩) ((w.alloc (.cells #[.int .i64 0, .string ⟨#[]⟩, .string ⟨#[]⟩, .string ⟨#[]⟩] 54)).alloc (.cells #[.int .i64 0, .string ⟨#[]⟩, .string ⟨#[]⟩, .string ⟨#[]⟩] 54))) := Lib.hid Lang2.mk0
 cases hq : closeF l (i + 1) false with
 | inr f =>
   obtain ⟨p, n⟩ := f
   have HE : Hid (litAt l i = .inr (p, n)) := Lib.hid (by unfold litAt; rw [hq])
   have CL := Lib.hid (fun u => closing_bad hq (by omega) hi u)
   clear hq
   go_enter Tryz.func235, Tryz.ntmps235
   go_wp2_with (go_at_call 250; (with_reducible refine (CL.out _).mono ?_); rintro e w1 ⟨eb, rfl, he, hb⟩; have HL1 := Lib.hid (HL0.out.later hb); have HER := Lib.hid he; clear hb he; obtain ⟨c0, c1, c2, c3, f2, f3, d0, d1, d2, d3, g0, g1, g2, g3⟩ := HL1.out.cells; have f0 := HL1.out.r.free (j := 0) (by simp); have f1 := HL1.out.r.free (j := 1) (by simp); have hz := HL1.out.z; have hz1 : w.heap.size < w1.heap.size := (by omega))
   refine bodyPost_ret (v := .tuple #[.agg #[.int .i64 0, .string ⟨#[]⟩, .string ⟨#[]⟩, .string ⟨#[]⟩], .int .i64 0, .iface 77 (.pointer (some ⟨eb, 0, none⟩))]) (by simp [results, Tryz.results235, go_sem, c0, c1, c2, c3]) rfl ?_
   exact lit_err HL1.out.b c1 HER.out HE.out _ _ _ _ 0 0 [] [] []
 | inl p =>
   have hpb := closeF_bound l l.length (i + 1) false p (by omega) hq
   have hp0 : i + 1 <= p := hpb.1
   have hp1 : p < l.length := hpb.2.1
   have HQ : Hid (litAt l i = (match unescF 1 (cutF l (i + 1) p) 0 with
     | .inr (p, c) => .inr (i + 1 + p, c)
     | .inl t => if 65536 < t.length then .inr (i, 2) else behindF l t (p + 1))) := Lib.hid (by unfold litAt; rw [hq]; rfl)
   have CL := Lib.hid (fun u => closing_ok hq (by omega) hi u)
   have hcl := cutF_len l (i + 1) p
   have HCUT : Hid ((l.drop (i + 1)).take (p - (i + 1)) = cutF l (i + 1) p) := Lib.hid rfl
   clear hq hpb
   cases hq : unescF 1 (cutF l (i + 1) p) 0 with
   | inr f =>
     obtain ⟨j, n⟩ := f
     have hj := (unesc_at 1 _ _ 0 j n (Nat.le_refl _) hq).1
     have UN := Lib.hid (fun u => unescape_bad hq (by omega) u)
     have MV := Lib.hid (fun v u (h : ErrIs u v (.inr (j, n))) => moved_l v j (i + 1) ((i : Int) + 1) n (by omega) u h (by omega))
     have HE : Hid (litAt l i = .inr (j + (i + 1), n)) := Lib.hid (by rw [HQ.out, hq, Nat.add_comm j])
     have hi1 : IntKind.i64.wrap ((i : Int) + 1) = (i : Int) + 1 := IntWalk.i64_in _ (by omega)
     clear hq hj HQ hcl
     go_enter Tryz.func235, Tryz.ntmps235
     go_upto_region 7 with (first
       | (go_at_call 250; (with_reducible refine (CL.out _).mono ?_); rintro e w1 ⟨rfl, hb⟩; have HL1 := Lib.hid (HL0.out.later hb); clear hb)
       | (go_at_call 248; rw [HCUT.out]; (with_reducible refine (UN.out _).mono ?_); rintro e w2 ⟨eb, rfl, he, hb⟩; have HL2 := Lib.hid (HL1.out.later hb); have HER := Lib.hid he; clear hb he))
     obtain ⟨c0, c1, c2, c3, f2, f3, d0, d1, d2, d3, g0, g1, g2, g3⟩ := HL2.out.cells
     have f0 := HL2.out.r.free (j := 0) (by simp)
     have f1 := HL2.out.r.free (j := 1) (by simp)
     have hz := HL2.out.z
     have hz1 : w.heap.size < w2.heap.size := (by omega)
     have KALL := Lib.hid (show _ /\ _ from (HL2.out.later (below_drewN w2 1)).all)
     go_region_held3 (fun w' => (w'.cell? ⟨w.heap.size + 1, 0, none⟩ = some (.int .i64 0) /\ w'.cell? ⟨w.heap.size + 1, 1, none⟩ = some (.string ⟨#[]⟩) /\ w'.cell? ⟨w.heap.size + 1, 2, none⟩ = some (.string ⟨#[]⟩) /\ w'.cell? ⟨w.heap.size + 1, 3, none⟩ = some (.string ⟨#[]⟩)) /\ (w'.cell? ⟨w.heap.size, 0, none⟩ = some (.int .i64 0) /\ w'.cell? ⟨w.heap.size, 1, none⟩ = some (.string ⟨#[]⟩) /\ w'.cell? ⟨w.heap.size, 2, none⟩ = some (.string ⟨#[]⟩) /\ w'.cell? ⟨w.heap.size, 3, none⟩ = some (.string ⟨#[]⟩)) /\ (w'.frozen? ⟨w.heap.size, 0, none⟩ = false /\ w'.frozen? ⟨w.heap.size, 1, none⟩ = false /\ w'.frozen? ⟨w.heap.size, 2, none⟩ = false /\ w'.frozen? ⟨w.heap.size, 3, none⟩ = false))
       (first | (with_reducible exact HLX.out.all) | (refine ⟨⟨?_, ?_, ?_, ?_⟩, ⟨?_, ?_, ?_, ?_⟩, ⟨?_, ?_, ?_, ?_⟩⟩ <;> simp [go_sem, cell_pred, x0, x1, x2, x3, y0, y1, y2, y3, z0, z1, z2, z3]) | exact ⟨⟨d0, d1, d2, d3⟩, ⟨c0, c1, c2, c3⟩, ⟨f0, f1, f2, f3⟩⟩)
       ((go_at_call 249; (refine (MV.out _ _ ?hev).mono ?_); (case hev => exact HER.out); rintro e w3 ⟨v3, rfl, he, hb⟩; have HE3 := Lib.hid he; have HLX := Lib.hid (HL2.out.later ((below_drewN _ 1).trans (hb.mono (by simp)))); clear he hb; obtain ⟨⟨x0, x1, x2, x3⟩, ⟨y0, y1, y2, y3⟩, ⟨z0, z1, z2, z3⟩⟩ := HLX.out.all))
     go_wp2_with fail
     refine bodyPost_ret (v := .tuple #[.agg #[.int .i64 0, .string ⟨#[]⟩, .string ⟨#[]⟩, .string ⟨#[]⟩], .int .i64 0, v3]) (by simp [results, Tryz.results235, go_sem, y0, y1, y2, y3]) rfl ?_
     exact lit_err HLX.out.b y1 HE3.out HE.out _ _ _ _ 0 0 [] [] []
   | inl t =>
     have hu := unesc_len 1 _ _ 0 t (Nat.le_refl _) hq
     have UN := Lib.hid (fun u => unescape_ok hq (by omega) u)
     rw [hq] at HQ
     simp only at HQ
     have htl : t.length <= 67108864 := by omega
     clear hu hq hcl
     by_cases hbig : 65536 < t.length
     · have e1 : decide ((65536 : Int) < (t.length : Int)) = true := decide_eq_true (by omega)
       have HE : Hid (litAt l i = .inr (i, 2)) := Lib.hid (by rw [HQ.out, if_pos hbig])
       clear HQ hbig
       go_enter Tryz.func235, Tryz.ntmps235
       go_upto_region 9 with (first | (go_at_call 250; (with_reducible refine (CL.out _).mono ?_); rintro e w1 ⟨rfl, hb⟩; have HL1 := Lib.hid (HL0.out.later hb); clear hb) | (go_at_call 248; rw [HCUT.out]; (with_reducible refine (UN.out _).mono ?_); rintro e w2 ⟨rfl, hb⟩; have HL2 := Lib.hid (HL1.out.later hb); clear hb))
       obtain ⟨c0, c1, c2, c3, f2, f3, d0, d1, d2, d3, g0, g1, g2, g3⟩ := HL2.out.cells
       have f0 := HL2.out.r.free (j := 0) (by simp)
       have f1 := HL2.out.r.free (j := 1) (by simp)
       have hz := HL2.out.z
       have hz1 : w.heap.size < w2.heap.size := (by omega)
       go_region_held3 (fun w' => w'.cell? ⟨w.heap.size + 1, 0, none⟩ = some (.int .i64 0) /\ w'.cell? ⟨w.heap.size + 1, 1, none⟩ = some (.string ⟨#[]⟩) /\ w'.cell? ⟨w.heap.size + 1, 2, none⟩ = some (.string ⟨#[]⟩) /\ w'.cell? ⟨w.heap.size + 1, 3, none⟩ = some (.string ⟨#[]⟩)) (first | (with_reducible exact ⟨d0, d1, d2, d3⟩) | (refine ⟨?_, ?_, ?_, ?_⟩ <;> simp [World.cell?_alloc_lt, cell_pred, hz, d0, d1, d2, d3]))
         ((go_at_call 247; refine (AT.out _ _ _).mono ?_; rintro e w4 ⟨rfl, rfl⟩))
       go_wp2_with fail
       refine bodyPost_ret (v := .tuple #[.agg #[.int .i64 0, .string ⟨#[]⟩, .string ⟨#[]⟩, .string ⟨#[]⟩], .int .i64 0, .iface 77 (.pointer (some ⟨w2.heap.size, 0, none⟩))]) (by simp [results, Tryz.results235, go_sem, c0, c1, c2, c3, hz1]) rfl ?_
       have hfin := next_errN (w := w) (W := w2) (x := litAt l i) (p := i) (P := (i : Int)) (n := 2) HL2.out.b HE.out (by omega) (.int .i64 0) (.string ⟨#[]⟩) (.string ⟨#[]⟩) (.string ⟨#[]⟩) 0 0 [] [] []
       exact ⟨hfin.1, hfin.2.drew⟩
     have e1 : decide ((65536 : Int) < (t.length : Int)) = false := decide_eq_false (by omega)
     have HB : Hid (litAt l i = behindF l t (p + 1)) := Lib.hid (by rw [HQ.out, if_neg hbig])
     clear HQ hbig
     by_cases h64 : l.getD (p + 1) 0 = 64
     · have H64 := Lib.hid (hasPre (l := l) (e := p + 1) (p := ⟨#[64]⟩) (b := true) ((pre1 64 (by decide) l (p + 1)).trans (decide_eq_true h64)))
       have hlt : p + 1 < l.length := getD_lt h64 (by decide)
       have HB2 : Hid (litAt l i = lanT ⟨3, t, plainT, []⟩ (tagAt l (p + 1))) := Lib.hid (by
         rw [HB.out]
         unfold behindF
         rw [if_pos h64]
         cases tagAt l (p + 1) <;> rfl)
       have hi2 : ((p + 1 : Nat) : Int) = (p : Int) + 1 := rfl
       cases hq : tagAt l (p + 1) with
       | inr f =>
         obtain ⟨q, n⟩ := f
         have LG : Hid (∀ u, MaxAt u -> Calls Tryz.prog 252 #[.agg #[.int .i64 3, .string (B t), .string { data := #[104, 116, 116, 112, 58, 47, 47, 119, 119, 119, 46, 119, 51, 46, 111, 114, 103, 47, 50, 48, 48, 49, 47, 88, 77, 76, 83, 99, 104, 101, 109, 97, 35, 115, 116, 114, 105, 110, 103] }, .string ⟨#[]⟩], .string (B l), .int .i64 ((p : Int) + 1)] u fun e w' => (∃ k a b d n' v, e = .returned (.tuple #[.agg #[.int .i64 k, .string (B a), .string (B b), .string (B d)], .int .i64 n', v]) /\ ErrIs w' v (.inr (q, n))) /\ Below u.heap.size u w') := Lib.hid (fun u h => (language_l ⟨3, t, plainT, []⟩ l (p + 1) u h hl hlt).mono fun e w' => by
           rw [hq]
           rintro ⟨⟨T, n', v, rfl, hv⟩, hb⟩
           exact ⟨⟨_, _, _, _, _, _, rfl, hv⟩, hb⟩)
         have HE : Hid (litAt l i = .inr (q, n)) := Lib.hid (by rw [HB2.out, hq]; rfl)
         clear HB HB2 h64 hq
         go_enter Tryz.func235, Tryz.ntmps235
         go_upto_region 13 with (first | (go_at_call 250; (with_reducible refine (CL.out _).mono ?_); rintro e w1 ⟨rfl, hb⟩; have HL1 := Lib.hid (HL0.out.later hb); clear hb) | (go_at_call 248; rw [HCUT.out]; (with_reducible refine (UN.out _).mono ?_); rintro e w2 ⟨rfl, hb⟩; have HL2 := Lib.hid (HL1.out.later hb); clear hb) | (go_at_call 251; (with_reducible refine (H64.out _).mono ?_); rintro e w7 ⟨rfl, hw7⟩; obtain rfl := hw7.symm))
         generalize hV : w2.alloc (.cells #[.int .i64 3, .string (B t), .string { data := #[104, 116, 116, 112, 58, 47, 47, 119, 119, 119, 46, 119, 51, 46, 111, 114, 103, 47, 50, 48, 48, 49, 47, 88, 77, 76, 83, 99, 104, 101, 109, 97, 35, 115, 116, 114, 105, 110, 103] }, .string ⟨#[]⟩] 54) = V
         have hB2 : Below w2.heap.size w2 V := by rw [<- hV]; exact (Below.refl _ _).alloc (Nat.le_refl _) _
         have HL3 := Lib.hid (HL2.out.later hB2)
         have hrow : RowAt V w2.heap.size [.int .i64 3, .string (B t), .string { data := #[104, 116, 116, 112, 58, 47, 47, 119, 119, 119, 46, 119, 51, 46, 111, 114, 103, 47, 50, 48, 48, 49, 47, 88, 77, 76, 83, 99, 104, 101, 109, 97, 35, 115, 116, 114, 105, 110, 103] }, .string ⟨#[]⟩] := by rw [<- hV]; exact rowAt_of_heap (heap_alloc_new _ _)
         have l0 := hrow.cell (j := 0) (by simp)
         have l1 := hrow.cell (j := 1) (by simp)
         have l2 := hrow.cell (j := 2) (by simp)
         have l3 := hrow.cell (j := 3) (by simp)
         simp only [List.getElem_cons_zero, List.getElem_cons_succ] at l0 l1 l2 l3
         have HROW := Lib.hid hrow
         clear hV hB2 hrow
         have HMV := Lib.hid (hM.below HL3.out.b)
         go_wp2_with (go_at_call 252; (with_reducible refine (LG.out _ HMV.out).mono ?_); rintro e w5 ⟨⟨k5, s5, s6, s7, n5, v5, rfl, he⟩, hb⟩; have HE5 := Lib.hid he; have HL5 := Lib.hid (HL3.out.later hb); clear hb he; obtain ⟨c0, c1, c2, c3, f2, f3, d0, d1, d2, d3, g0, g1, g2, g3⟩ := HL5.out.cells; have f0 := HL5.out.r.free (j := 0) (by simp); have f1 := HL5.out.r.free (j := 1) (by simp); have hz := HL5.out.z; have hz1 : w.heap.size < w5.heap.size := (by omega))
         refine bodyPost_ret (v := .tuple #[.agg #[.int .i64 k5, .string (B s5), .string (B s6), .string (B s7)], .int .i64 n5, v5]) (by simp [results, Tryz.results235, go_sem, c0, c1, c2, c3]) rfl ?_
         exact lit_err HL5.out.b c1 HE5.out HE.out _ _ _ _ _ _ _ _ _
       | inl f =>
         obtain ⟨g, m⟩ := f
         have LG : Hid (∀ u, MaxAt u -> Calls Tryz.prog 252 #[.agg #[.int .i64 3, .string (B t), .string { data := #[104, 116, 116, 112, 58, 47, 47, 119, 119, 119, 46, 119, 51, 46, 111, 114, 103, 47, 50, 48, 48, 49, 47, 88, 77, 76, 83, 99, 104, 101, 109, 97, 35, 115, 116, 114, 105, 110, 103] }, .string ⟨#[]⟩], .string (B l), .int .i64 ((p : Int) + 1)] u fun e w' => e = .returned (.tuple #[.agg #[.int .i64 3, .string (B t), .string (B tagged), .string (B g)], .int .i64 (m : Int), .nilIface]) /\ Below u.heap.size u w') := Lib.hid (fun u h => (language_l ⟨3, t, plainT, []⟩ l (p + 1) u h hl hlt).mono fun e w' => by
           rw [hq]
           rintro ⟨rfl, hb⟩
           exact ⟨rfl, hb⟩)
         have HE : Hid (litAt l i = .inl (⟨3, t, tagged, g⟩, m)) := Lib.hid (by rw [HB2.out, hq]; rfl)
         clear HB HB2 h64 hq
         go_enter Tryz.func235, Tryz.ntmps235
         go_upto_region 13 with (first | (go_at_call 250; (with_reducible refine (CL.out _).mono ?_); rintro e w1 ⟨rfl, hb⟩; have HL1 := Lib.hid (HL0.out.later hb); clear hb) | (go_at_call 248; rw [HCUT.out]; (with_reducible refine (UN.out _).mono ?_); rintro e w2 ⟨rfl, hb⟩; have HL2 := Lib.hid (HL1.out.later hb); clear hb) | (go_at_call 251; (with_reducible refine (H64.out _).mono ?_); rintro e w7 ⟨rfl, hw7⟩; obtain rfl := hw7.symm))
         generalize hV : w2.alloc (.cells #[.int .i64 3, .string (B t), .string { data := #[104, 116, 116, 112, 58, 47, 47, 119, 119, 119, 46, 119, 51, 46, 111, 114, 103, 47, 50, 48, 48, 49, 47, 88, 77, 76, 83, 99, 104, 101, 109, 97, 35, 115, 116, 114, 105, 110, 103] }, .string ⟨#[]⟩] 54) = V
         have hB2 : Below w2.heap.size w2 V := by rw [<- hV]; exact (Below.refl _ _).alloc (Nat.le_refl _) _
         have HL3 := Lib.hid (HL2.out.later hB2)
         have hrow : RowAt V w2.heap.size [.int .i64 3, .string (B t), .string { data := #[104, 116, 116, 112, 58, 47, 47, 119, 119, 119, 46, 119, 51, 46, 111, 114, 103, 47, 50, 48, 48, 49, 47, 88, 77, 76, 83, 99, 104, 101, 109, 97, 35, 115, 116, 114, 105, 110, 103] }, .string ⟨#[]⟩] := by rw [<- hV]; exact rowAt_of_heap (heap_alloc_new _ _)
         have l0 := hrow.cell (j := 0) (by simp)
         have l1 := hrow.cell (j := 1) (by simp)
         have l2 := hrow.cell (j := 2) (by simp)
         have l3 := hrow.cell (j := 3) (by simp)
         simp only [List.getElem_cons_zero, List.getElem_cons_succ] at l0 l1 l2 l3
         have HROW := Lib.hid hrow
         clear hV hB2 hrow
         have HMV := Lib.hid (hM.below HL3.out.b)
         go_wp2_with (go_at_call 252; (with_reducible refine (LG.out _ HMV.out).mono ?_); rintro e w5 ⟨rfl, hb⟩; have HL5 := Lib.hid (HL3.out.later hb); clear hb; obtain ⟨c0, c1, c2, c3, f2, f3, d0, d1, d2, d3, g0, g1, g2, g3⟩ := HL5.out.cells; have f0 := HL5.out.r.free (j := 0) (by simp); have f1 := HL5.out.r.free (j := 1) (by simp); have hz := HL5.out.z; have hz1 : w.heap.size < w5.heap.size := (by omega))
         refine bodyPost_ret (v := .tuple #[.agg #[.int .i64 3, .string (B t), .string (B tagged), .string (B g)], .int .i64 (m : Int), .nilIface]) (by simp [results, Tryz.results235, go_sem, c0, c1, c2, c3]) rfl ?_
         exact next_ok (t := ⟨3, t, tagged, g⟩) HL5.out.b HE.out rfl _ _ _ _
     have H64 := Lib.hid (hasPre (l := l) (e := p + 1) (p := ⟨#[64]⟩) (b := false) ((pre1 64 (by decide) l (p + 1)).trans (decide_eq_false h64)))
     by_cases h94 : l.getD (p + 1) 0 = 94 /\ l.getD (p + 2) 0 = 94
     case neg =>
       have H94 := Lib.hid (hasPre (l := l) (e := p + 1) (p := ⟨#[94, 94]⟩) (b := false) ((pre2 94 94 (by decide) (by decide) l (p + 1)).trans (decide_eq_false h94)))
       have HE : Hid (litAt l i = .inl (⟨3, t, plainT, []⟩, p + 1)) := Lib.hid (by rw [HB.out]; unfold behindF; rw [if_neg h64, if_neg h94])
       clear HB h64 h94
       go_enter Tryz.func235, Tryz.ntmps235
       go_upto_region 22 with (first | (go_at_call 250; (with_reducible refine (CL.out _).mono ?_); rintro e w1 ⟨rfl, hb⟩; have HL1 := Lib.hid (HL0.out.later hb); clear hb) | (go_at_call 248; rw [HCUT.out]; (with_reducible refine (UN.out _).mono ?_); rintro e w2 ⟨rfl, hb⟩; have HL2 := Lib.hid (HL1.out.later hb); clear hb) | (go_at_call 251; (with_reducible refine (H64.out _).mono ?_); rintro e w7 ⟨rfl, hw7⟩; obtain rfl := hw7.symm) | (go_at_call 251; (with_reducible refine (H94.out _).mono ?_); rintro e w7 ⟨rfl, hw7⟩; obtain rfl := hw7.symm))
       generalize hV : w2.alloc (.cells #[.int .i64 3, .string (B t), .string { data := #[104, 116, 116, 112, 58, 47, 47, 119, 119, 119, 46, 119, 51, 46, 111, 114, 103, 47, 50, 48, 48, 49, 47, 88, 77, 76, 83, 99, 104, 101, 109, 97, 35, 115, 116, 114, 105, 110, 103] }, .string ⟨#[]⟩] 54) = V
       have hB2 : Below w2.heap.size w2 V := by rw [<- hV]; exact (Below.refl _ _).alloc (Nat.le_refl _) _
       have HL3 := Lib.hid (HL2.out.later hB2)
       have hrow : RowAt V w2.heap.size [.int .i64 3, .string (B t), .string { data := #[104, 116, 116, 112, 58, 47, 47, 119, 119, 119, 46, 119, 51, 46, 111, 114, 103, 47, 50, 48, 48, 49, 47, 88, 77, 76, 83, 99, 104, 101, 109, 97, 35, 115, 116, 114, 105, 110, 103] }, .string ⟨#[]⟩] := by rw [<- hV]; exact rowAt_of_heap (heap_alloc_new _ _)
       have l0 := hrow.cell (j := 0) (by simp)
       have l1 := hrow.cell (j := 1) (by simp)
       have l2 := hrow.cell (j := 2) (by simp)
       have l3 := hrow.cell (j := 3) (by simp)
       simp only [List.getElem_cons_zero, List.getElem_cons_succ] at l0 l1 l2 l3
       have HROW := Lib.hid hrow
       clear hV hB2 hrow
       obtain ⟨c0, c1, c2, c3, f2, f3, d0, d1, d2, d3, g0, g1, g2, g3⟩ := HL3.out.cells
       have f0 := HL3.out.r.free (j := 0) (by simp)
       have f1 := HL3.out.r.free (j := 1) (by simp)
       have hz := HL3.out.z
       have hz1 : w.heap.size < V.heap.size := (by omega)
       go_wp2_with fail
       refine bodyPost_ret (v := .tuple #[.agg #[.int .i64 3, .string (B t), .string (B plainT), .string ⟨#[]⟩], .int .i64 ((p : Int) + 1), .nilIface]) (by simp [results, Tryz.results235, go_sem, c0, c1, c2, c3, plainT, B]) rfl ?_
       exact next_ok (t := ⟨3, t, plainT, []⟩) HL3.out.b HE.out (by omega) _ _ _ _
     have H94 := Lib.hid (hasPre (l := l) (e := p + 1) (p := ⟨#[94, 94]⟩) (b := true) ((pre2 94 94 (by decide) (by decide) l (p + 1)).trans (decide_eq_true h94)))
     have hlt : p + 2 < l.length := getD_lt h94.2 (by decide)
     have HB2 : Hid (litAt l i = (match iriAt l (p + 3) with
       | .inr f => .inr f
       | .inl (ty, n) => if ty = tagged then .inr (p + 1, 71) else .inl (⟨3, t, ty, []⟩, n))) := Lib.hid (by rw [HB.out]; unfold behindF; rw [if_neg h64, if_pos h94]; rfl)
     clear HB h64 h94
     by_cases h60 : l.getD (p + 3) 0 = 60
     case neg =>
       have H60 := Lib.hid (hasPre (l := l) (e := p + 3) (p := ⟨#[60]⟩) (b := false) ((pre1 60 (by decide) l (p + 3)).trans (decide_eq_false h60)))
       have HE : Hid (litAt l i = .inr (p + 3, 90)) := Lib.hid (by rw [HB2.out]; unfold iriAt; rw [if_pos h60])
       clear HB2 h60
       go_enter Tryz.func235, Tryz.ntmps235
       go_upto_region 16 with (first | (go_at_call 250; (with_reducible refine (CL.out _).mono ?_); rintro e w1 ⟨rfl, hb⟩; have HL1 := Lib.hid (HL0.out.later hb); clear hb) | (go_at_call 248; rw [HCUT.out]; (with_reducible refine (UN.out _).mono ?_); rintro e w2 ⟨rfl, hb⟩; have HL2 := Lib.hid (HL1.out.later hb); clear hb) | (go_at_call 251; (with_reducible refine (H64.out _).mono ?_); rintro e w7 ⟨rfl, hw7⟩; obtain rfl := hw7.symm) | (go_at_call 251; (with_reducible refine (H94.out _).mono ?_); rintro e w7 ⟨rfl, hw7⟩; obtain rfl := hw7.symm) | (go_at_call 251; (with_reducible refine (H60.out _).mono ?_); rintro e w7 ⟨rfl, hw7⟩; obtain rfl := hw7.symm))
       generalize hV : w2.alloc (.cells #[.int .i64 3, .string (B t), .string { data := #[104, 116, 116, 112, 58, 47, 47, 119, 119, 119, 46, 119, 51, 46, 111, 114, 103, 47, 50, 48, 48, 49, 47, 88, 77, 76, 83, 99, 104, 101, 109, 97, 35, 115, 116, 114, 105, 110, 103] }, .string ⟨#[]⟩] 54) = V
       have hB2 : Below w2.heap.size w2 V := by rw [<- hV]; exact (Below.refl _ _).alloc (Nat.le_refl _) _
       have HL3 := Lib.hid (HL2.out.later hB2)
       have hrow : RowAt V w2.heap.size [.int .i64 3, .string (B t), .string { data := #[104, 116, 116, 112, 58, 47, 47, 119, 119, 119, 46, 119, 51, 46, 111, 114, 103, 47, 50, 48, 48, 49, 47, 88, 77, 76, 83, 99, 104, 101, 109, 97, 35, 115, 116, 114, 105, 110, 103] }, .string ⟨#[]⟩] := by rw [<- hV]; exact rowAt_of_heap (heap_alloc_new _ _)
       have l0 := hrow.cell (j := 0) (by simp)
       have l1 := hrow.cell (j := 1) (by simp)
       have l2 := hrow.cell (j := 2) (by simp)
       have l3 := hrow.cell (j := 3) (by simp)
       simp only [List.getElem_cons_zero, List.getElem_cons_succ] at l0 l1 l2 l3
       have HROW := Lib.hid hrow
       clear hV hB2 hrow
       obtain ⟨c0, c1, c2, c3, f2, f3, d0, d1, d2, d3, g0, g1, g2, g3⟩ := HL3.out.cells
       have f0 := HL3.out.r.free (j := 0) (by simp)
       have f1 := HL3.out.r.free (j := 1) (by simp)
       have hz := HL3.out.z
       have hz1 : w.heap.size < V.heap.size := (by omega)
       have hi3 : IntKind.i64.wrap ((p : Int) + 1 + 2) = (p : Int) + 1 + 2 := IntWalk.i64_in _ (by omega)
       go_region_held3 (fun w' => w'.cell? ⟨w.heap.size + 1, 0, none⟩ = some (.int .i64 0) /\ w'.cell? ⟨w.heap.size + 1, 1, none⟩ = some (.string ⟨#[]⟩) /\ w'.cell? ⟨w.heap.size + 1, 2, none⟩ = some (.string ⟨#[]⟩) /\ w'.cell? ⟨w.heap.size + 1, 3, none⟩ = some (.string ⟨#[]⟩)) (first | (with_reducible exact ⟨d0, d1, d2, d3⟩) | (refine ⟨?_, ?_, ?_, ?_⟩ <;> simp [World.cell?_alloc_lt, cell_pred, hz, d0, d1, d2, d3]))
         ((go_at_call 247; refine (AT.out _ _ _).mono ?_; rintro e w4 ⟨rfl, rfl⟩))
       go_wp2_with fail
       refine bodyPost_ret (v := .tuple #[.agg #[.int .i64 0, .string ⟨#[]⟩, .string ⟨#[]⟩, .string ⟨#[]⟩], .int .i64 0, .iface 77 (.pointer (some ⟨V.heap.size, 0, none⟩))]) (by simp [results, Tryz.results235, go_sem, c0, c1, c2, c3, hz1]) rfl ?_
       have hfin := next_errN (w := w) (W := V) (x := litAt l i) (p := p + 3) (P := ((p : Int) + 1 + 2)) (n := 90) HL3.out.b HE.out (by omega) (.int .i64 0) (.string ⟨#[]⟩) (.string ⟨#[]⟩) (.string ⟨#[]⟩) 0 0 [] [] []
       exact ⟨hfin.1, hfin.2.drew⟩
     have H60 := Lib.hid (hasPre (l := l) (e := p + 3) (p := ⟨#[60]⟩) (b := true) ((pre1 60 (by decide) l (p + 3)).trans (decide_eq_true h60)))
     have hl3 : p + 3 < l.length := getD_lt h60 (by decide)
     exact nextLit_typed l t i p w hl hi CL.out UN.out htl hp0 hp1 e1 H64.out H94.out H60.out hlt hl3 h60 HB2.out
end Go.Proofs.YtmnigckpejcaeaaGreatDoor
namespace Go.Proofs.YtmnigckpejcaeaaGreatDoor
open Go.RowKit
set_option maxRecDepth 100000
theorem read_bad {f : FuncId} {l : List UInt8} {I : Int} {p : Nat} {c : Int} {x : (TermL × Nat) ⊕ (Nat × Int)} (hx : x = .inr (p, c)) {u : World}
   (h : Calls Tryz.prog f #[.string (B l), .int .i64 I] u fun e w' => NextOut w' e x /\ Below u.heap.size u w') :
   Calls Tryz.prog f #[.string (B l), .int .i64 I] u fun e w' => (∃ k a b d n' eb, e = .returned (.tuple #[.agg #[.int .i64 k, .string (B a), .string (B b), .string (B d)], .int .i64 n', .iface 77 (.pointer (some ⟨eb, 0, none⟩))]) /\ ErrIs w' (.iface 77 (.pointer (some ⟨eb, 0, none⟩))) (.inr (p, c))) /\ Below u.heap.size u w' :=
 h.mono fun e w' => by
   rw [hx]
   rintro ⟨⟨T, n', v, rfl, hv⟩, hb⟩
   have hv2 := hv
   obtain ⟨eb, rfl, _, _⟩ := hv
   exact ⟨⟨_, _, _, _, _, eb, rfl, hv2⟩, hb⟩
theorem read_ok {f : FuncId} {l : List UInt8} {I : Int} {t : TermL} {n : Nat} {x : (TermL × Nat) ⊕ (Nat × Int)} (hx : x = .inl (t, n)) {u : World}
   (h : Calls Tryz.prog f #[.string (B l), .int .i64 I] u fun e w' => NextOut w' e x /\ Below u.heap.size u w') :
   Calls Tryz.prog f #[.string (B l), .int .i64 I] u fun e w' => e = .returned (.tuple #[.agg #[.int .i64 t.kind, .string (B t.text), .string (B t.type), .string (B t.lang)], .int .i64 (n : Int), .nilIface]) /\ Below u.heap.size u w' :=
 h.mono fun e w' => by
   rw [hx]
   rintro ⟨rfl, hb⟩
   exact ⟨rfl, hb⟩
set_option maxHeartbeats 1600000 in
theorem next_iri (l : List UInt8) (i : Nat) (w : World) (hl : l.length <= 16777216) (hi : i < l.length) (h60 : l.getD i 0 = 60) :
   Calls Tryz.prog 200 #[.string (B l), .int .i64 (i : Int)] w fun e w' => NextOut w' e (irT (iriAt l i)) /\ Below w.heap.size w w' := by
 have HA : Hid (Below w.heap.size w (w.alloc (.cells #[.int .i64 0, .string ⟨#[]⟩, .string ⟨#[]⟩, .string ⟨#[]⟩] 54))) := Lib.hid ((Below.refl _ _).alloc (Nat.le_refl _) _)
 have RD := Lib.hid (fun u (_h : True) => nextIRI_l l i u hl hi h60)
 have R1 := Lib.hid (fun w' => resT_new (w := w) (w' := w') (T := 54))
 have HY := Lib.hid True.intro
 have e1 : ((l[i].toNat : Int) == 60) = true := by rw [<- getD_at hi, h60]; rfl
 cases hx : (irT (iriAt l i)) with
 | inr f =>
   obtain ⟨p, c⟩ := f
   have R2 := Lib.hid (fun u (h : _) => read_bad hx (RD.out u h))
   clear hx RD
   go_enter Tryz.func200, Tryz.ntmps200
   go_wp2_with (go_at_call 233; (with_reducible refine (R2.out _ HY.out).mono ?_); rintro e w2 ⟨⟨k6, s5, s6, s7, n6, eb, rfl, he⟩, hb⟩; have HER := Lib.hid he; clear he; have HR2 := Lib.hid (R1.out _ hb); clear hb; obtain ⟨bb, c0, c1, c2, c3, f0, f1, f2, f3⟩ := HR2.out; have hlt2 := HR2.out.lt)
   refine bodyPost_ret (v := .tuple #[.agg #[.int .i64 0, .string ⟨#[]⟩, .string ⟨#[]⟩, .string ⟨#[]⟩], .int .i64 0, .iface 77 (.pointer (some ⟨eb, 0, none⟩))]) (by simp [results, Tryz.results200, go_sem, c0, c1, c2, c3, hlt2]) rfl ?_
   have hfin := next_err (w := w) (W := w2) (x := .inr (p, c)) (v := .iface 77 (.pointer (some ⟨eb, 0, none⟩))) HR2.out HER.out rfl (.int .i64 0) (.string ⟨#[]⟩) (.string ⟨#[]⟩) (.string ⟨#[]⟩)
   exact ⟨hfin.1.alloc _, hfin.2.alloc hfin.2.size _⟩
 | inl f =>
   obtain ⟨t, n⟩ := f
   have R2 := Lib.hid (fun u (h : _) => read_ok hx (RD.out u h))
   clear hx RD
   go_enter Tryz.func200, Tryz.ntmps200
   go_wp2_with (go_at_call 233; (with_reducible refine (R2.out _ HY.out).mono ?_); rintro e w2 ⟨rfl, hb⟩; have HR2 := Lib.hid (R1.out _ hb); clear hb; obtain ⟨bb, c0, c1, c2, c3, f0, f1, f2, f3⟩ := HR2.out; have hlt2 := HR2.out.lt)
   refine bodyPost_ret (v := .tuple #[.agg #[.int .i64 t.kind, .string (B t.text), .string (B t.type), .string (B t.lang)], .int .i64 (n : Int), .nilIface]) (by simp [results, Tryz.results200, go_sem, c0, c1, c2, c3, hlt2]) rfl ?_
   have hfin := next_ok (w := w) (W := w2) (t := t) (n := n) (N := (n : Int)) (x := .inl (t, n)) HR2.out.b rfl rfl (.int .i64 t.kind) (.string (B t.text)) (.string (B t.type)) (.string (B t.lang))
   exact ⟨hfin.1.alloc _, hfin.2.alloc hfin.2.size _⟩
set_option maxHeartbeats 1600000 in
theorem next_blank (l : List UInt8) (i : Nat) (w : World) (hl : l.length <= 16777216) (hi : i < l.length) (hT : TabAt w) (h95 : l.getD i 0 = 95) :
   Calls Tryz.prog 200 #[.string (B l), .int .i64 (i : Int)] w fun e w' => NextOut w' e (blankAt l i) /\ Below w.heap.size w w' := by
 have HA : Hid (Below w.heap.size w (w.alloc (.cells #[.int .i64 0, .string ⟨#[]⟩, .string ⟨#[]⟩, .string ⟨#[]⟩] 54))) := Lib.hid ((Below.refl _ _).alloc (Nat.le_refl _) _)
 have RD := Lib.hid (fun u (h : TabAt u) => nextBlank_l l i u h hl hi)
 have R1 := Lib.hid (fun w' => resT_new (w := w) (w' := w') (T := 54))
 have HY := Lib.hid (hT.below HA.out)
 have hg := (getD_at hi).symm.trans h95
 have e1 : ((l[i].toNat : Int) == 60) = false := by rw [hg]; rfl
 have e2 : ((l[i].toNat : Int) == 95) = true := by rw [hg]; rfl
 clear hg
 cases hx : (blankAt l i) with
 | inr f =>
   obtain ⟨p, c⟩ := f
   have R2 := Lib.hid (fun u (h : _) => read_bad hx (RD.out u h))
   clear hx RD
   go_enter Tryz.func200, Tryz.ntmps200
   go_wp2_with (go_at_call 234; (with_reducible refine (R2.out _ HY.out).mono ?_); rintro e w2 ⟨⟨k6, s5, s6, s7, n6, eb, rfl, he⟩, hb⟩; have HER := Lib.hid he; clear he; have HR2 := Lib.hid (R1.out _ hb); clear hb; obtain ⟨bb, c0, c1, c2, c3, f0, f1, f2, f3⟩ := HR2.out; have hlt2 := HR2.out.lt)
   refine bodyPost_ret (v := .tuple #[.agg #[.int .i64 0, .string ⟨#[]⟩, .string ⟨#[]⟩, .string ⟨#[]⟩], .int .i64 0, .iface 77 (.pointer (some ⟨eb, 0, none⟩))]) (by simp [results, Tryz.results200, go_sem, c0, c1, c2, c3, hlt2]) rfl ?_
   have hfin := next_err (w := w) (W := w2) (x := .inr (p, c)) (v := .iface 77 (.pointer (some ⟨eb, 0, none⟩))) HR2.out HER.out rfl (.int .i64 0) (.string ⟨#[]⟩) (.string ⟨#[]⟩) (.string ⟨#[]⟩)
   exact ⟨hfin.1.alloc _, hfin.2.alloc hfin.2.size _⟩
 | inl f =>
   obtain ⟨t, n⟩ := f
   have R2 := Lib.hid (fun u (h : _) => read_ok hx (RD.out u h))
   clear hx RD
   go_enter Tryz.func200, Tryz.ntmps200
   go_wp2_with (go_at_call 234; (with_reducible refine (R2.out _ HY.out).mono ?_); rintro e w2 ⟨rfl, hb⟩; have HR2 := Lib.hid (R1.out _ hb); clear hb; obtain ⟨bb, c0, c1, c2, c3, f0, f1, f2, f3⟩ := HR2.out; have hlt2 := HR2.out.lt)
   refine bodyPost_ret (v := .tuple #[.agg #[.int .i64 t.kind, .string (B t.text), .string (B t.type), .string (B t.lang)], .int .i64 (n : Int), .nilIface]) (by simp [results, Tryz.results200, go_sem, c0, c1, c2, c3, hlt2]) rfl ?_
   have hfin := next_ok (w := w) (W := w2) (t := t) (n := n) (N := (n : Int)) (x := .inl (t, n)) HR2.out.b rfl rfl (.int .i64 t.kind) (.string (B t.text)) (.string (B t.type)) (.string (B t.lang))
   exact ⟨hfin.1.alloc _, hfin.2.alloc hfin.2.size _⟩
set_option maxHeartbeats 1600000 in
theorem next_lit (l : List UInt8) (i : Nat) (w : World) (hl : l.length <= 16777216) (hi : i < l.length) (hM : MaxAt w) (h34 : l.getD i 0 = 34) :
   Calls Tryz.prog 200 #[.string (B l), .int .i64 (i : Int)] w fun e w' => NextOut w' e (litAt l i) /\ Below w.heap.size w w' := by
 have HA : Hid (Below w.heap.size w (w.alloc (.cells #[.int .i64 0, .string ⟨#[]⟩, .string ⟨#[]⟩, .string ⟨#[]⟩] 54))) := Lib.hid ((Below.refl _ _).alloc (Nat.le_refl _) _)
 have RD := Lib.hid (fun u (h : MaxAt u) => nextLiteral_l l i u h hl hi)
 have R1 := Lib.hid (fun w' => resT_new (w := w) (w' := w') (T := 54))
 have HY := Lib.hid (hM.below HA.out)
 have hg := (getD_at hi).symm.trans h34
 have e1 : ((l[i].toNat : Int) == 60) = false := by rw [hg]; rfl
 have e2 : ((l[i].toNat : Int) == 95) = false := by rw [hg]; rfl
 have e3 : ((l[i].toNat : Int) == 34) = true := by rw [hg]; rfl
 clear hg
 cases hx : (litAt l i) with
 | inr f =>
   obtain ⟨p, c⟩ := f
   have R2 := Lib.hid (fun u (h : _) => read_bad hx (RD.out u h))
   clear hx RD
   go_enter Tryz.func200, Tryz.ntmps200
   go_wp2_with (go_at_call 235; (with_reducible refine (R2.out _ HY.out).mono ?_); rintro e w2 ⟨⟨k6, s5, s6, s7, n6, eb, rfl, he⟩, hb⟩; have HER := Lib.hid he; clear he; have HR2 := Lib.hid (R1.out _ hb); clear hb; obtain ⟨bb, c0, c1, c2, c3, f0, f1, f2, f3⟩ := HR2.out; have hlt2 := HR2.out.lt)
   refine bodyPost_ret (v := .tuple #[.agg #[.int .i64 0, .string ⟨#[]⟩, .string ⟨#[]⟩, .string ⟨#[]⟩], .int .i64 0, .iface 77 (.pointer (some ⟨eb, 0, none⟩))]) (by simp [results, Tryz.results200, go_sem, c0, c1, c2, c3, hlt2]) rfl ?_
   have hfin := next_err (w := w) (W := w2) (x := .inr (p, c)) (v := .iface 77 (.pointer (some ⟨eb, 0, none⟩))) HR2.out HER.out rfl (.int .i64 0) (.string ⟨#[]⟩) (.string ⟨#[]⟩) (.string ⟨#[]⟩)
   exact ⟨hfin.1.alloc _, hfin.2.alloc hfin.2.size _⟩
 | inl f =>
   obtain ⟨t, n⟩ := f
   have R2 := Lib.hid (fun u (h : _) => read_ok hx (RD.out u h))
   clear hx RD
   go_enter Tryz.func200, Tryz.ntmps200
   go_wp2_with (go_at_call 235; (with_reducible refine (R2.out _ HY.out).mono ?_); rintro e w2 ⟨rfl, hb⟩; have HR2 := Lib.hid (R1.out _ hb); clear hb; obtain ⟨bb, c0, c1, c2, c3, f0, f1, f2, f3⟩ := HR2.out; have hlt2 := HR2.out.lt)
   refine bodyPost_ret (v := .tuple #[.agg #[.int .i64 t.kind, .string (B t.text), .string (B t.type), .string (B t.lang)], .int .i64 (n : Int), .nilIface]) (by simp [results, Tryz.results200, go_sem, c0, c1, c2, c3, hlt2]) rfl ?_
   have hfin := next_ok (w := w) (W := w2) (t := t) (n := n) (N := (n : Int)) (x := .inl (t, n)) HR2.out.b rfl rfl (.int .i64 t.kind) (.string (B t.text)) (.string (B t.type)) (.string (B t.lang))
   exact ⟨hfin.1.alloc _, hfin.2.alloc hfin.2.size _⟩
set_option maxHeartbeats 1600000 in
theorem next_none (l : List UInt8) (i : Nat) (w : World) (_hl : l.length <= 16777216) (hi : i < l.length) (h1 : l.getD i 0 ≠ 60) (h2 : l.getD i 0 ≠ 95) (h3 : l.getD i 0 ≠ 34) :
   Calls Tryz.prog 200 #[.string (B l), .int .i64 (i : Int)] w fun e w' => NextOut w' e (.inr (i, 90)) /\ Below w.heap.size w w' := by
 have HA : Hid (Below w.heap.size w (w.alloc (.cells #[.int .i64 0, .string ⟨#[]⟩, .string ⟨#[]⟩, .string ⟨#[]⟩] 54))) := Lib.hid ((Below.refl _ _).alloc (Nat.le_refl _) _)
 have RD := Lib.hid (fun u (_h : True) => nothing_l l i u)
 have R1 := Lib.hid (fun w' => resT_new (w := w) (w' := w') (T := 54))
 have HY := Lib.hid True.intro
 rw [getD_at hi] at h1 h2 h3
 have e1 : ((l[i].toNat : Int) == 60) = false := byte_ne (d := 60) h1
 have e2 : ((l[i].toNat : Int) == 95) = false := byte_ne (d := 95) h2
 have e3 : ((l[i].toNat : Int) == 34) = false := byte_ne (d := 34) h3
 clear h1 h2 h3
 have R2 := Lib.hid (fun u (h : _) => read_bad rfl (RD.out u h))
 clear RD
 go_enter Tryz.func200, Tryz.ntmps200
 go_wp2_with (go_at_call 232; (with_reducible refine (R2.out _ HY.out).mono ?_); rintro e w2 ⟨⟨k6, s5, s6, s7, n6, eb, rfl, he⟩, hb⟩; have HER := Lib.hid he; clear he; have HR2 := Lib.hid (R1.out _ hb); clear hb; obtain ⟨bb, c0, c1, c2, c3, f0, f1, f2, f3⟩ := HR2.out; have hlt2 := HR2.out.lt)
 refine bodyPost_ret (v := .tuple #[.agg #[.int .i64 0, .string ⟨#[]⟩, .string ⟨#[]⟩, .string ⟨#[]⟩], .int .i64 0, .iface 77 (.pointer (some ⟨eb, 0, none⟩))]) (by simp [results, Tryz.results200, go_sem, c0, c1, c2, c3, hlt2]) rfl ?_
 have hfin := next_err (w := w) (W := w2) (x := .inr (i, 90)) (v := .iface 77 (.pointer (some ⟨eb, 0, none⟩))) HR2.out HER.out rfl (.int .i64 0) (.string ⟨#[]⟩) (.string ⟨#[]⟩) (.string ⟨#[]⟩)
 exact ⟨hfin.1.alloc _, hfin.2.alloc hfin.2.size _⟩
theorem termNext_l (l : List UInt8) (i : Nat) (w : World) (hT : TabAt w) (hM : MaxAt w) (hl : l.length <= 16777216) (hi : i < l.length) :
   Calls Tryz.prog 200 #[.string (B l), .int .i64 (i : Int)] w fun e w' => NextOut w' e (termAt l i) /\ Below w.heap.size w w' := by
 unfold termAt
 by_cases h1 : l.getD i 0 = 60
 · rw [if_pos h1]
   have h := next_iri l i w hl hi h1
   unfold irT at h
   exact h
 rw [if_neg h1]
 by_cases h2 : l.getD i 0 = 34
 · rw [if_pos h2]; exact next_lit l i w hl hi hM h2
 rw [if_neg h2]
 by_cases h3 : l.getD i 0 = 95
 · rw [if_pos h3]; exact next_blank l i w hl hi hT h3
 · rw [if_neg h3]; exact next_none l i w hl hi h1 h3 h2
end Go.Proofs.YtmnigckpejcaeaaGreatDoor
