/-
  tesseralaw06.NamesJoins: the walk. By an AI agent.
-/
import Derived.Test.YtfjcbodkjjmagaaRefJoin
import Derived.Test.YtfjcbodkjjmagaaSameTag
import Derived.Deep.RegionHeld
namespace Go.Proofs.Ytfjcbodkjjmagaa
open Go.RowKit
set_option maxRecDepth 100000

set_option maxHeartbeats 3200000 in
theorem joins_walk (t : TagL) (a1 a2 : Option Addr) (c1 c2 : Nat) (w : World) (h1 : t.vars.length ≤ 4194304) (h2 : t.exts.length ≤ 4194304) (hj : (joinT t).length ≤ 16777216) (hA1 : At w a1 (t.vars.map strV)) (hA2 : At w a2 (t.exts.map strV)) (hn1 : a1 = none → c1 = 0) (hn2 : a2 = none → c2 = 0) :
    Calls Try.prog 4 #[.agg (tagCells t a1 a2 c1 c2)] w fun e w' => e = .returned (.bool true) ∧ Below w.heap.size w w' := by
  have LENT := Lib.hid lent_any; have BACK := Lib.hid back_yes
  have JOI := Lib.hid join_l; have REF := Lib.hid refJoin_l; have SAM := Lib.hid sameTag_yes
  obtain ⟨J, hJ⟩ : ∃ J, joinT t = J := ⟨_, rfl⟩
  rw [hJ] at hj
  have HJ := Lib.hid hJ
  obtain ⟨lang, ext, script, region, vars, exts, priv⟩ := t
  simp only at h1 h2 hA1 hA2
  unfold tagCells
  simp only
  obtain ⟨W1, hW1⟩ : ∃ W1, w.alloc (.cells #[.string (B lang), .string (B ext), .string (B script), .string (B region), .slice a1 vars.length c1, .slice a2 exts.length c2, .string (B priv)] 28) = W1 := ⟨_, rfl⟩
  obtain ⟨W2, hW2⟩ : ∃ W2, W1.alloc (.cells #[.string (B lang), .string (B ext), .string (B script), .string (B region), .slice a1 vars.length c1, .slice a2 exts.length c2, .string (B priv)] 28) = W2 := ⟨_, rfl⟩
  have s1 : W1.heap.size = w.heap.size + 1 := by rw [← hW1, World.size_alloc]
  have s2 : W2.heap.size = w.heap.size + 1 + 1 := by rw [← hW2, World.size_alloc, s1]
  have hb12 : Below W1.heap.size W1 W2 := by rw [← hW2]; exact (Below.refl _ _).alloc (Nat.le_refl _) _
  have hb01 : Below w.heap.size w W1 := by rw [← hW1]; exact (Below.refl _ _).alloc (Nat.le_refl _) _
  have hb02 : Below w.heap.size w W2 := hb01.trans (hb12.mono hb01.size)
  have TC : Hid (∀ u, Below W1.heap.size W1 u → ∀ (k : Nat) (x : Value), (#[.string (B lang), .string (B ext), .string (B script), .string (B region), .slice a1 vars.length c1, .slice a2 exts.length c2, .string (B priv)] : Array Value)[k]? = some x → u.cell? ⟨w.heap.size, k, none⟩ = some x) :=
    Lib.hid (fun u h k x hx => new_cell (T := 28) (by rw [hW1]; exact h) k x hx)
  have TD : Hid (∀ u, Below W2.heap.size W2 u → ∀ (k : Nat) (x : Value), (#[.string (B lang), .string (B ext), .string (B script), .string (B region), .slice a1 vars.length c1, .slice a2 exts.length c2, .string (B priv)] : Array Value)[k]? = some x → u.cell? ⟨w.heap.size + 1, k, none⟩ = some x) :=
    Lib.hid (fun u h k x hx => by
      have h := new_cell (T := 28) (w := W1) (by rw [hW2]; exact h) k x hx
      rw [s1] at h
      exact h)
  have TZ : Hid (∀ u, Below W2.heap.size W2 u → ∀ k, u.frozen? ⟨w.heap.size + 1, k, none⟩ = false) :=
    Lib.hid (fun u h k => by
      have h := new_frozen (w := W1) (cs := #[.string (B lang), .string (B ext), .string (B script), .string (B region), .slice a1 vars.length c1, .slice a2 exts.length c2, .string (B priv)]) (T := 28) (by rw [hW2]; exact h) k
      rw [s1] at h
      exact h)
  have k0 := TC.out W1 (Below.refl _ _) 0 _ rfl; have k1 := TC.out W1 (Below.refl _ _) 1 _ rfl; have k2 := TC.out W1 (Below.refl _ _) 2 _ rfl; have k3 := TC.out W1 (Below.refl _ _) 3 _ rfl
  have k4 := TC.out W1 (Below.refl _ _) 4 _ rfl; have k5 := TC.out W1 (Below.refl _ _) 5 _ rfl; have k6 := TC.out W1 (Below.refl _ _) 6 _ rfl
  have p4 := TC.out W2 hb12 4 _ rfl; have p5 := TC.out W2 hb12 5 _ rfl
  have HA := Lib.hid (And.intro hA1 hA2)
  have HB := Lib.hid (And.intro hb02 hb12)
  have L1 := Lib.hid (LENT.out vars a1 c1 W2 (by omega) (hA1.below hb02))
  clear hA1 hA2 hb02 hb12 hb01
  go_enter Try.func4, Try.ntmps4
  go_wp2_with (go_at_call 5; (with_reducible refine L1.out.mono ?_); rintro e w3 ⟨v1, rfl, hl1, hb3⟩; obtain ⟨g1, hg1, rfl, hX1⟩ := hl1; have z4 := TZ.out w3 hb3 4; have y4 := TD.out w3 hb3 4 _ rfl; have HB3 := Lib.hid hb3; have HX1 := Lib.hid hX1; have x5 := TC.out w3 (HB.out.2.trans (hb3.mono HB.out.2.size)) 5 _ rfl; clear hb3 hX1)
  have hb3 := HB3.out
  have hs3 := hb3.size
  have R3 : RowAt w3 (w.heap.size + 1) [.string (B lang), .string (B ext), .string (B script), .string (B region), .slice a1 vars.length c1, .slice a2 exts.length c2, .string (B priv)] := fun k hk => ⟨TD.out w3 hb3 k _ (by simp), TZ.out w3 hb3 k⟩
  have R3' := R3.set (j := 4) (by simp) (.slice (some ⟨g1, 0, none⟩) vars.length (vars.length + 1))
  have hb13 : Below W1.heap.size W1 w3 := HB.out.2.trans (hb3.mono HB.out.2.size)
  have hb03 : Below w.heap.size w w3 := HB.out.1.trans (hb3.mono HB.out.1.size)
  have hb13' : Below W1.heap.size W1 (w3.setCell ⟨w.heap.size + 1, 4, none⟩ (.slice (some ⟨g1, 0, none⟩) vars.length (vars.length + 1))) := hb13.setCell (p := ⟨w.heap.size + 1, 4, none⟩) (by rw [s1]; simp) _
  have hb03' : Below w.heap.size w (w3.setCell ⟨w.heap.size + 1, 4, none⟩ (.slice (some ⟨g1, 0, none⟩) vars.length (vars.length + 1))) := hb03.setCell (p := ⟨w.heap.size + 1, 4, none⟩) (by simp) _
  have hX1' : At (w3.setCell ⟨w.heap.size + 1, 4, none⟩ (.slice (some ⟨g1, 0, none⟩) vars.length (vars.length + 1))) (some ⟨g1, 0, none⟩) ((vars ++ [holder]).map strV) := fun j hj => by
    obtain ⟨b, o, e, hc⟩ := HX1.out j hj
    cases e
    refine ⟨g1, 0, rfl, ?_⟩
    exact (World.cell?_setCell_far _ ⟨w.heap.size + 1, 4, none⟩ ⟨g1, 0 + j, none⟩ _ (by show w.heap.size + 1 ≠ g1; omega)).trans hc
  obtain ⟨W4, hW4⟩ : ∃ W4, w3.setCell ⟨w.heap.size + 1, 4, none⟩ (.slice (some ⟨g1, 0, none⟩) vars.length (vars.length + 1)) = W4 := ⟨_, rfl⟩
  rw [hW4] at R3' hb13' hb03' hX1' ⊢
  have hsz4 : w.heap.size + 1 < W4.heap.size := World.block_lt_of_cell? _ _ (R3'.cell (j := 0) (by simp))
  refine (LENT.out exts a2 c2 W4 (by omega) (HA.out.2.below hb03')).mono ?_
  rintro e w5 ⟨v2, rfl, hl2, hb5⟩
  obtain ⟨g2, hg2, rfl, hX2⟩ := hl2
  have R5 := R3'.below hb5 hsz4
  have z5 := R5.free (j := 5) (by simp)
  have y5 := R5.cell (j := 5) (by simp)
  have R5' := R5.set (j := 5) (by simp) (.slice (some ⟨g2, 0, none⟩) exts.length (exts.length + 1))
  have hb15 : Below W1.heap.size W1 (w5.setCell ⟨w.heap.size + 1, 5, none⟩ (.slice (some ⟨g2, 0, none⟩) exts.length (exts.length + 1))) := (hb13'.trans (hb5.mono hb13'.size)).setCell (p := ⟨w.heap.size + 1, 5, none⟩) (by rw [s1]; simp) _
  have hb05 : Below w.heap.size w (w5.setCell ⟨w.heap.size + 1, 5, none⟩ (.slice (some ⟨g2, 0, none⟩) exts.length (exts.length + 1))) := (hb03'.trans (hb5.mono hb03'.size)).setCell (p := ⟨w.heap.size + 1, 5, none⟩) (by simp) _
  have hX15 : At (w5.setCell ⟨w.heap.size + 1, 5, none⟩ (.slice (some ⟨g2, 0, none⟩) exts.length (exts.length + 1))) (some ⟨g1, 0, none⟩) ((vars ++ [holder]).map strV) := fun j hj => by
    obtain ⟨b, o, e, hc⟩ := (hX1'.below hb5) j hj
    cases e
    refine ⟨g1, 0, rfl, ?_⟩
    exact (World.cell?_setCell_far _ ⟨w.heap.size + 1, 5, none⟩ ⟨g1, 0 + j, none⟩ _ (by show w.heap.size + 1 ≠ g1; omega)).trans hc
  have hX25 : At (w5.setCell ⟨w.heap.size + 1, 5, none⟩ (.slice (some ⟨g2, 0, none⟩) exts.length (exts.length + 1))) (some ⟨g2, 0, none⟩) ((exts ++ [holder]).map strV) := fun j hj => by
    obtain ⟨b, o, e, hc⟩ := hX2 j hj
    cases e
    refine ⟨g2, 0, rfl, ?_⟩
    exact (World.cell?_setCell_far _ ⟨w.heap.size + 1, 5, none⟩ ⟨g2, 0 + j, none⟩ _ (by show w.heap.size + 1 ≠ g2; omega)).trans hc
  obtain ⟨W6, hW6⟩ : ∃ W6, w5.setCell ⟨w.heap.size + 1, 5, none⟩ (.slice (some ⟨g2, 0, none⟩) exts.length (exts.length + 1)) = W6 := ⟨_, rfl⟩
  rw [hW6] at R5' hb15 hb05 hX15 hX25
  simp only [List.set_cons_succ, List.set_cons_zero] at R5'
  have hs6 : w.heap.size + 1 < W6.heap.size := World.block_lt_of_cell? _ _ (R5'.cell (j := 0) (by simp))
  have hY1 : At W6 (some ⟨g1, 0, none⟩) (vars.map strV) := by have := hX15.take vars.length; rw [List.map_append, List.take_left' (by simp)] at this; exact this
  have hY2 : At W6 (some ⟨g2, 0, none⟩) (exts.map strV) := by have := hX25.take exts.length; rw [List.map_append, List.take_left' (by simp)] at this; exact this
  have hA1 := HA.out.1.below hb05
  have hA2 := HA.out.2.below hb05
  have FP : Hid (∀ u, Below W6.heap.size W6 u → (∀ (k : Nat) (x : Value), (#[.string (B lang), .string (B ext), .string (B script), .string (B region), .slice a1 vars.length c1, .slice a2 exts.length c2, .string (B priv)] : Array Value)[k]? = some x → u.cell? ⟨w.heap.size, k, none⟩ = some x) ∧ (∀ (k : Nat) (x : Value), (#[.string (B lang), .string (B ext), .string (B script), .string (B region), .slice (some ⟨g1, 0, none⟩) vars.length (vars.length + 1), .slice (some ⟨g2, 0, none⟩) exts.length (exts.length + 1), .string (B priv)] : Array Value)[k]? = some x → u.cell? ⟨w.heap.size + 1, k, none⟩ = some x)) :=
    Lib.hid (fun u h => ⟨fun k x hx => TC.out u (hb15.trans (h.mono hb15.size)) k x hx, fun k x hx => by
      have R6 := R5'.below h hs6
      have hk : k < 7 := by have := (Array.getElem?_eq_some_iff.1 hx).1; simpa using this
      have := R6.cell (j := k) (by simpa using hk)
      rw [this]
      rw [← hx]
      simp [hk]⟩)
  have JO : Hid (Calls Try.prog 9 #[.agg #[.string (B lang), .string (B ext), .string (B script), .string (B region), .slice (some ⟨g1, 0, none⟩) vars.length (vars.length + 1), .slice (some ⟨g2, 0, none⟩) exts.length (exts.length + 1), .string (B priv)]] W6 fun e w' => e = .returned (.string (B J)) ∧ Below W6.heap.size W6 w') :=
    Lib.hid (HJ.out ▸ JOI.out ⟨lang, ext, script, region, vars, exts, priv⟩ (some ⟨g1, 0, none⟩) (some ⟨g2, 0, none⟩) (vars.length + 1) (exts.length + 1) W6 (by show vars.length ≤ _; omega) (by show exts.length ≤ _; omega) (by rw [HJ.out]; omega) hY1 hY2 (fun h => nomatch h) (fun h => nomatch h))
  have RJ : Hid (∀ u, Below W6.heap.size W6 u → Calls Try.prog 10 #[.agg #[.string (B lang), .string (B ext), .string (B script), .string (B region), .slice a1 vars.length c1, .slice a2 exts.length c2, .string (B priv)]] u fun e w' => e = .returned (.string (B J)) ∧ Below u.heap.size u w') :=
    Lib.hid (fun u h => HJ.out ▸ REF.out ⟨lang, ext, script, region, vars, exts, priv⟩ a1 a2 c1 c2 u h1 h2 (by rw [HJ.out]; exact hj) (hA1.below h) (hA2.below h) hn1 hn2)
  have ST : Hid (∀ u, Below W6.heap.size W6 u → Calls Try.prog 11 #[.agg #[.string (B lang), .string (B ext), .string (B script), .string (B region), .slice (some ⟨g1, 0, none⟩) vars.length (vars.length + 1), .slice (some ⟨g2, 0, none⟩) exts.length (exts.length + 1), .string (B priv)], .agg #[.string (B lang), .string (B ext), .string (B script), .string (B region), .slice a1 vars.length c1, .slice a2 exts.length c2, .string (B priv)]] u fun e w' => e = .returned (.bool true) ∧ Below u.heap.size u w') :=
    Lib.hid (fun u h => SAM.out ⟨lang, ext, script, region, vars, exts, priv⟩ (some ⟨g1, 0, none⟩) (some ⟨g2, 0, none⟩) a1 a2 (vars.length + 1) (exts.length + 1) c1 c2 u (by show vars.length ≤ _; omega) (by show exts.length ≤ _; omega) (hY1.below h) (hY2.below h) (hA1.below h) (hA2.below h))
  have BK1 : Hid (∀ u, Below W6.heap.size W6 u → Calls Try.prog 8 #[(.slice (some ⟨g1, 0, none⟩) vars.length (vars.length + 1)), .slice a1 vars.length c1] u fun e w' => e = .returned (.bool true) ∧ ∃ n, w' = u.drewN n) :=
    Lib.hid (fun u h => BACK.out vars _ 0 a1 c1 u (by omega) ⟨g1, Nat.zero_le _, rfl, hX15.below h⟩ (hA1.below h))
  have BK2 : Hid (∀ u, Below W6.heap.size W6 u → Calls Try.prog 8 #[(.slice (some ⟨g2, 0, none⟩) exts.length (exts.length + 1)), .slice a2 exts.length c2] u fun e w' => e = .returned (.bool true) ∧ ∃ n, w' = u.drewN n) :=
    Lib.hid (fun u h => BACK.out exts _ 0 a2 c2 u (by omega) ⟨g2, Nat.zero_le _, rfl, hX25.below h⟩ (hA2.below h))
  have HB0 := Lib.hid hb05
  have m0 := (FP.out W6 (Below.refl _ _)).2 0 _ rfl; have m1 := (FP.out W6 (Below.refl _ _)).2 1 _ rfl; have m2 := (FP.out W6 (Below.refl _ _)).2 2 _ rfl; have m3 := (FP.out W6 (Below.refl _ _)).2 3 _ rfl; have m4 := (FP.out W6 (Below.refl _ _)).2 4 _ rfl; have m5 := (FP.out W6 (Below.refl _ _)).2 5 _ rfl; have m6 := (FP.out W6 (Below.refl _ _)).2 6 _ rfl
  clear hA1 hA2 hY1 hY2 hX15 hX25 R5' R5 R3' R3 hb15 hb05 hb13' hb03' hb13 hb03 hb3 hb5 hX1' hX2 y4 z4 x5 k0 k1 k2 k3 k4 k5 k6 p4 p5 TC TD TZ JOI REF SAM LENT BACK
  go_wp2_with (first
    | (go_at_call 9; (with_reducible refine JO.out.mono ?_); rintro e w7 ⟨rfl, hb7⟩; have HB7 := Lib.hid hb7; have p0 := (FP.out w7 HB7.out).1 0 _ rfl; have q0 := (FP.out w7 HB7.out).2 0 _ rfl; have p1 := (FP.out w7 HB7.out).1 1 _ rfl; have q1 := (FP.out w7 HB7.out).2 1 _ rfl; have p2 := (FP.out w7 HB7.out).1 2 _ rfl; have q2 := (FP.out w7 HB7.out).2 2 _ rfl; have p3 := (FP.out w7 HB7.out).1 3 _ rfl; have q3 := (FP.out w7 HB7.out).2 3 _ rfl; have p4 := (FP.out w7 HB7.out).1 4 _ rfl; have q4 := (FP.out w7 HB7.out).2 4 _ rfl; have p5 := (FP.out w7 HB7.out).1 5 _ rfl; have q5 := (FP.out w7 HB7.out).2 5 _ rfl; have p6 := (FP.out w7 HB7.out).1 6 _ rfl; have q6 := (FP.out w7 HB7.out).2 6 _ rfl; clear hb7)
    | (go_at_call 10; (with_reducible refine (RJ.out _ HB7.out).mono ?_); rintro e w8 ⟨rfl, hb8⟩; have HB8 := Lib.hid (HB7.out.trans (hb8.mono HB7.out.size)); clear p0 q0; clear p1 q1; clear p2 q2; clear p3 q3; clear p4 q4; clear p5 q5; clear p6 q6; have p0 := (FP.out w8 HB8.out).1 0 _ rfl; have q0 := (FP.out w8 HB8.out).2 0 _ rfl; have p1 := (FP.out w8 HB8.out).1 1 _ rfl; have q1 := (FP.out w8 HB8.out).2 1 _ rfl; have p2 := (FP.out w8 HB8.out).1 2 _ rfl; have q2 := (FP.out w8 HB8.out).2 2 _ rfl; have p3 := (FP.out w8 HB8.out).1 3 _ rfl; have q3 := (FP.out w8 HB8.out).2 3 _ rfl; have p4 := (FP.out w8 HB8.out).1 4 _ rfl; have q4 := (FP.out w8 HB8.out).2 4 _ rfl; have p5 := (FP.out w8 HB8.out).1 5 _ rfl; have q5 := (FP.out w8 HB8.out).2 5 _ rfl; have p6 := (FP.out w8 HB8.out).1 6 _ rfl; have q6 := (FP.out w8 HB8.out).2 6 _ rfl; clear hb8)
    | (go_at_call 11; (with_reducible refine (ST.out _ HB8.out).mono ?_); rintro e w9 ⟨rfl, hb9⟩; have HB9 := Lib.hid (HB8.out.trans (hb9.mono HB8.out.size)); clear p0 q0; clear p1 q1; clear p2 q2; clear p3 q3; clear p4 q4; clear p5 q5; clear p6 q6; have p0 := (FP.out w9 HB9.out).1 0 _ rfl; have q0 := (FP.out w9 HB9.out).2 0 _ rfl; have p1 := (FP.out w9 HB9.out).1 1 _ rfl; have q1 := (FP.out w9 HB9.out).2 1 _ rfl; have p2 := (FP.out w9 HB9.out).1 2 _ rfl; have q2 := (FP.out w9 HB9.out).2 2 _ rfl; have p3 := (FP.out w9 HB9.out).1 3 _ rfl; have q3 := (FP.out w9 HB9.out).2 3 _ rfl; have p4 := (FP.out w9 HB9.out).1 4 _ rfl; have q4 := (FP.out w9 HB9.out).2 4 _ rfl; have p5 := (FP.out w9 HB9.out).1 5 _ rfl; have q5 := (FP.out w9 HB9.out).2 5 _ rfl; have p6 := (FP.out w9 HB9.out).1 6 _ rfl; have q6 := (FP.out w9 HB9.out).2 6 _ rfl; clear hb9)
    | (go_at_call 8; (with_reducible refine (BK1.out _ HB9.out).mono ?_); rintro e w10 ⟨rfl, n1, rfl⟩; have HB10 := Lib.hid (below_drewN HB9.out n1))
    | (go_at_call 8; (with_reducible refine (BK2.out _ HB10.out).mono ?_); rintro e w11 ⟨rfl, n2, rfl⟩)
    | fail)
  go_ret
  exact ⟨rfl, HB0.out.trans ((below_drewN HB9.out _).mono HB0.out.size)⟩
end Go.Proofs.Ytfjcbodkjjmagaa
