/-
  tesseralaw06.NamesWhole: the walk. By an AI agent.
-/
import Derived.Test.YtfjcbodkjjmagaaDoorGWorks
namespace Go.Proofs.YtfjcbodkjjmagaaDoor
open Go.RowKit
set_option maxRecDepth 100000

set_option maxHeartbeats 6400000 in
theorem whole_walk (s : List UInt8) (w : World) (hT : TabAt w) (hM : MaxAt w) (hs : s.length ≤ 1048576) :
    Calls Tryd.prog 10 #[.string (B s)] w fun e w' => e = .returned (.bool true) ∧ Below w.heap.size w w' := by
  have WK := Lib.hid (works_l w hT hM)
  have HM := Lib.hid hM
  have LO := Lib.hid (fun u => lower_l s u (by unfold maxLen; omega))
  have NUM := Lib.hid num_l
  have T1 := Lib.hid (fun u (h : Below w.heap.size w u) => tag_l s u (hM.below h) (by omega))
  have T2 := Lib.hid (fun u (h : Below w.heap.size w u) => tag_l (lowL s) u (hM.below h) (by rw [lowL_size]; omega))
  have CA := Lib.hid (fun u (h : Below w.heap.size w u) => case_l s u (hM.below h) (by omega))
  clear hT hM
  cases ht : tagF s with
  | none =>
    have ht2 : tagF (lowL s) = none := by rw [tagF_low, ht]; rfl
    have hc : caseF s = none := by unfold caseF; rw [ht2]; rfl
    rw [ht] at T1
    rw [ht2] at T2
    rw [hc] at CA
    clear ht ht2 hc
    go_enter Tryd.func10, Tryd.ntmps10
    go_wp2_with fail
    refine WK.out.mono ?_
    rintro e w1 ⟨rfl, hb1⟩
    go_wp2_with fail
    refine (T1.out w1 hb1).mono ?_
    rintro e w2 ⟨rfl, hb2⟩
    simp only [tagCells, noTag]
    go_wp2_with fail
    have rA := row_new (w := w) (w1 := w2) 43 [.string (B []), .string (B []), .string (B []), .string (B []), .slice none 0 0, .slice none 0 0, .string (B [])]
    have hb02 := hb1.trans (hb2.mono hb1.size)
    have hbA : Below w2.heap.size w2 (w2.alloc (.cells #[.string (B []), .string (B []), .string (B []), .string (B []), .slice none 0 0, .slice none 0 0, .string (B [])] 43)) := (Below.refl _ _).alloc (Nat.le_refl _) _
    have sA : w2.heap.size < (w2.alloc (.cells #[.string (B []), .string (B []), .string (B []), .string (B []), .slice none 0 0, .slice none 0 0, .string (B [])] 43)).heap.size := by rw [World.size_alloc]; exact Nat.lt_succ_self _
    have hbV := hb02.trans (hbA.mono hb02.size)
    generalize w2.alloc (.cells #[.string (B []), .string (B []), .string (B []), .string (B []), .slice none 0 0, .slice none 0 0, .string (B [])] 43) = V at *
    refine (LO.out V).mono ?_
    rintro e w3 ⟨rfl, hb3⟩
    have hb03 := hbV.trans (hb3.mono hbV.size)
    go_wp2_with fail
    refine (T2.out w3 hb03).mono ?_
    rintro e w4 ⟨rfl, hb4⟩
    have hb04 := hb03.trans (hb4.mono hb03.size)
    simp only [tagCells, noTag]
    go_wp2_with fail
    have hbB : Below w4.heap.size w4 (w4.alloc (.cells #[.string (B []), .string (B []), .string (B []), .string (B []), .slice none 0 0, .slice none 0 0, .string (B [])] 43)) := (Below.refl _ _).alloc (Nat.le_refl _) _
    generalize w4.alloc (.cells #[.string (B []), .string (B []), .string (B []), .string (B []), .slice none 0 0, .slice none 0 0, .string (B [])] 43) = V2 at *
    have hb0B := hb04.trans (hbB.mono hb04.size)
    refine (CA.out V2 hb0B).mono ?_
    rintro e w5 ⟨rfl, hb5⟩
    have hV5 : Below V.heap.size V w5 := (hb3.trans ((hb4.trans ((hbB.trans (hb5.mono hbB.size)).mono hb4.size)).mono hb3.size))
    have rA5 := rA.below hV5 sA
    have hb05 := hb0B.trans (hb5.mono hb0B.size)
    have y0 := (row_of rA5 0 _ rfl).1; have y1 := (row_of rA5 1 _ rfl).1; have y2 := (row_of rA5 2 _ rfl).1; have y3 := (row_of rA5 3 _ rfl).1; have y4 := (row_of rA5 4 _ rfl).1; have y5 := (row_of rA5 5 _ rfl).1; have y6 := (row_of rA5 6 _ rfl).1
    have ST : Hid (Calls Tryd.prog 33 #[.agg #[.string (B []), .string (B []), .string (B []), .string (B []), .slice none 0 0, .slice none 0 0, .string (B [])], .agg #[.string ⟨#[]⟩, .string ⟨#[]⟩, .string ⟨#[]⟩, .string ⟨#[]⟩, .slice none 0 0, .slice none 0 0, .string ⟨#[]⟩]] w5 fun e w' => e = .returned (.bool true) ∧ Below w5.heap.size w5 w') :=
      Lib.hid (sameTag_yes noTag none none none none 0 0 0 0 w5 (by simp [noTag]) (by simp [noTag]) (At.nil _ _) (At.nil _ _) (At.nil _ _) (At.nil _ _))
    have HB := Lib.hid hb05
    clear hb1 hb2 hb02 hbA sA hbV hb3 hb03 hb4 hb04 hbB hb0B hb5 hV5 rA rA5 hb05 T1 T2 CA WK
    go_wp2_with (first
      | (go_at_call 15; (with_reducible refine (NUM.out _ _).mono ?_); rintro e v8 ⟨rfl, hv8⟩; obtain rfl := hv8.symm)
      | (go_at_call 33; (with_reducible refine ST.out.mono ?_); rintro e w6 ⟨rfl, hb6⟩)
      | fail)
    go_ret
    exact ⟨rfl, HB.out.trans (hb6.mono HB.out.size)⟩
  | some t =>
    have ht2 : tagF (lowL s) = some (lowT t) := by rw [tagF_low, ht]; rfl
    have hjt := tagF_join ht
    have hvl := partsT_vars ht
    obtain ⟨c, hc⟩ : ∃ c, caseF s = some c := by unfold caseF; rw [ht2]; exact ⟨_, rfl⟩
    have hlc := caseF_low hc
    have hcl : c.length ≤ 1048576 := by rw [← lowL_size c, hlc, lowL_size]; exact hs
    have CC := Lib.hid (fun u (h : Below w.heap.size w u) => caseF_again hc ▸ case_l c u (HM.out.below h) (by omega))
    have LC := Lib.hid (fun u => hlc ▸ lower_l c u (by unfold maxLen; omega))
    rw [ht] at T1
    rw [ht2] at T2
    rw [hc] at CA
    have JO := Lib.hid (fun a1 a2 c1 c2 u => join_l t a1 a2 c1 c2 u (by omega) (by omega) (by rw [hjt]; omega))
    rw [hjt] at JO
    clear ht ht2 hc hlc hcl
    obtain ⟨lang, ext, script, region, vars, exts, priv⟩ := t
    simp only at hvl
    go_enter Tryd.func10, Tryd.ntmps10
    go_wp2_with fail
    refine WK.out.mono ?_
    rintro e w1 ⟨rfl, hb1⟩
    go_wp2_with fail
    refine (T1.out w1 hb1).mono ?_
    rintro e w2 ⟨a1, a2, c1, c2, rfl, hb2, ho1, ho2, _⟩
    simp only [tagCells]
    go_wp2_with fail
    have rA := row_new (w := w) (w1 := w2) 43 [.string (B lang), .string (B ext), .string (B script), .string (B region), .slice a1 vars.length c1, .slice a2 exts.length c2, .string (B priv)]
    have hb02 := hb1.trans (hb2.mono hb1.size)
    have hbA : Below w2.heap.size w2 (w2.alloc (.cells #[.string (B lang), .string (B ext), .string (B script), .string (B region), .slice a1 vars.length c1, .slice a2 exts.length c2, .string (B priv)] 43)) := (Below.refl _ _).alloc (Nat.le_refl _) _
    have sA : w2.heap.size < (w2.alloc (.cells #[.string (B lang), .string (B ext), .string (B script), .string (B region), .slice a1 vars.length c1, .slice a2 exts.length c2, .string (B priv)] 43)).heap.size := by rw [World.size_alloc]; exact Nat.lt_succ_self _
    have hbV := hb02.trans (hbA.mono hb02.size)
    generalize w2.alloc (.cells #[.string (B lang), .string (B ext), .string (B script), .string (B region), .slice a1 vars.length c1, .slice a2 exts.length c2, .string (B priv)] 43) = V at *
    refine (LO.out V).mono ?_
    rintro e w3 ⟨rfl, hb3⟩
    have hb03 := hbV.trans (hb3.mono hbV.size)
    go_wp2_with fail
    refine (T2.out w3 hb03).mono ?_
    rintro e w4 ⟨b1, b2, d1, d2, rfl, hb4, _⟩
    have hb04 := hb03.trans (hb4.mono hb03.size)
    simp only [tagCells, lowT]
    have hbX : ∀ o, Below w4.heap.size w4 (w4.alloc o) := fun o => (Below.refl _ _).alloc (Nat.le_refl _) _
    have HBX := Lib.hid hbX
    clear hbX
    go_wp2_with fail
    have CA2 := fun (o : Obj) => CA.out (w4.alloc o) (hb04.trans ((HBX.out o).mono hb04.size))
    refine (CA2 _).mono ?_
    rintro e w5 ⟨rfl, hb5⟩
    have hC : ∀ (o : Obj) (x : World), Below (w4.alloc o).heap.size (w4.alloc o) x → Below w4.heap.size w4 x := fun o x h => (HBX.out o).trans (h.mono (HBX.out o).size)
    have h45 := hC _ _ hb5
    have hV5 : Below V.heap.size V w5 := hb3.trans ((hb4.trans (h45.mono hb4.size)).mono hb3.size)
    have rA5 := rA.below hV5 sA
    have hb05 := hb04.trans (h45.mono hb04.size)
    have y0 := (row_of rA5 0 _ rfl).1; have y1 := (row_of rA5 1 _ rfl).1; have y2 := (row_of rA5 2 _ rfl).1; have y3 := (row_of rA5 3 _ rfl).1; have y4 := (row_of rA5 4 _ rfl).1; have y5 := (row_of rA5 5 _ rfl).1; have y6 := (row_of rA5 6 _ rfl).1
    have hA1 := ((At_of_own ho1).below hbA).below hV5
    have hA2 := ((At_of_own ho2).below hbA).below hV5
    have HAA := Lib.hid (And.intro hA1 (And.intro hA2 (And.intro (own_nil ho1) (own_nil ho2))))
    have HB := Lib.hid hb05
    have RA5 := Lib.hid rA5
    have hs5 : w2.heap.size < w5.heap.size := World.block_lt_of_cell? _ _ y0
    clear hC h45 hb1 hb2 hb02 hbA sA hbV hb3 hb03 hb4 hb04 hb5 hV5 rA rA5 hb05 T1 T2 CA CA2 WK hA1 hA2 ho1 ho2 HBX
    clear y0 y1 y2 y3 y4 y5 y6
    go_wp2_with (first | (go_at_call 15; (with_reducible refine (NUM.out _ _).mono ?_); rintro e v8 ⟨rfl, hv8⟩; obtain rfl := hv8.symm) | fail)
    refine (CC.out w5 HB.out).mono ?_
    rintro e w6 ⟨rfl, hb6⟩
    have rA6 := RA5.out.below hb6 hs5
    have y0 := (row_of rA6 0 _ rfl).1; have y1 := (row_of rA6 1 _ rfl).1; have y2 := (row_of rA6 2 _ rfl).1; have y3 := (row_of rA6 3 _ rfl).1; have y4 := (row_of rA6 4 _ rfl).1; have y5 := (row_of rA6 5 _ rfl).1; have y6 := (row_of rA6 6 _ rfl).1
    have HB6 := Lib.hid (HB.out.trans (hb6.mono HB.out.size))
    have JJ := Lib.hid (JO.out a1 a2 c1 c2 w6 (HAA.out.1.below hb6) (HAA.out.2.1.below hb6) HAA.out.2.2.1 HAA.out.2.2.2)
    simp only [tagCells] at JJ
    clear hb6 rA6
    go_wp2_with (first
      | (go_at_call 15; (with_reducible refine (NUM.out _ _).mono ?_); rintro e v8 ⟨rfl, hv8⟩; obtain rfl := hv8.symm)
      | (go_at_call 37; (with_reducible refine JJ.out.mono ?_); rintro e w7 ⟨rfl, hb7⟩; have HB7 := Lib.hid (HB6.out.trans (hb7.mono HB6.out.size)); clear hb7)
      | (go_at_call 34; (with_reducible refine (LC.out _).mono ?_); rintro e w8 ⟨rfl, hb8⟩; have HB8 := Lib.hid (HB7.out.trans (hb8.mono HB7.out.size)); clear hb8)
      | (go_at_call 34; (with_reducible refine (LO.out _).mono ?_); rintro e w9 ⟨rfl, hb9⟩; have HB9 := Lib.hid (HB8.out.trans (hb9.mono HB8.out.size)); clear hb9)
      | fail)
    go_ret
    exact ⟨rfl, HB9.out⟩
end Go.Proofs.YtfjcbodkjjmagaaDoor
