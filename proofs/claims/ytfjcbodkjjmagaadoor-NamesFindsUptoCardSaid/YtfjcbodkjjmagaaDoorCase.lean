/-
  Case, both sides: contracts. By an AI agent. (Printed by gen_case.py.)
-/
import Derived.Test.YtfjcbodkjjmagaaDoorWhole0
import Derived.Test.YtfjcbodkjjmagaaDoorRefTag
import Derived.Test.YtfjcbodkjjmagaaDoorRefJoin
import Derived.Test.YtfjcbodkjjmagaaDoorUpper
import Derived.Deep.RegionLaw
import Derived.Deep.RegionHeld3
namespace Go.Proofs.YtfjcbodkjjmagaaDoor
open Go.RowKit
set_option maxRecDepth 100000

def caseT (t : TagL) : TagL := { t with script := uppL (t.script.take 1) ++ t.script.drop 1, region := uppL t.region }
def caseF (s : List UInt8) : Option (List UInt8) := (tagF (lowL s)).map fun t => joinT (caseT t)
def CasePost (w w' : World) (e : Ending) : Option (List UInt8) → Prop
  | none => e = .returned (.tuple #[.string (B []), .int .i64 61]) ∧ Below w.heap.size w w'
  | some c => e = .returned (.tuple #[.string (B c), .int .i64 0]) ∧ Below w.heap.size w w'
theorem uppL_len (l : List UInt8) : (uppL l).length = l.length := by simp [uppL]
theorem keepL_len2 {x y : List UInt8} (h : x.length = y.length) (l m : List (List UInt8)) (he : (flatH (keepL l)).length = (flatH (keepL m)).length) : (flatH (keepL (x :: l))).length = (flatH (keepL (y :: m))).length := by
  cases hx : (x == []) with
  | true =>
    have hy : (y == []) = true := by
      rw [beq_iff_eq] at hx ⊢
      rw [hx] at h
      exact List.eq_nil_of_length_eq_zero h.symm
    rw [keepL_no hx, keepL_no hy, he]
  | false =>
    have hy : (y == []) = false := by
      rw [beq_eq_false_iff_ne] at hx ⊢
      intro e
      rw [e] at h
      exact hx (List.eq_nil_of_length_eq_zero h)
    rw [keepL_yes hx, keepL_yes hy]
    have e1 : flatH (x :: keepL l) = 45 :: x ++ flatH (keepL l) := by simp [flatH]
    have e2 : flatH (y :: keepL m) = 45 :: y ++ flatH (keepL m) := by simp [flatH]
    rw [e1, e2, List.length_append, List.length_append, he, List.length_cons, List.length_cons, h]
theorem flatH_pred (l : List (List UInt8)) : (joinD l).length = (flatH l).length - 1 := by
  rcases l with _ | ⟨p, r⟩
  · rfl
  · rw [flatH_cons]; simp
theorem caseT_len (t : TagL) : (joinT (caseT t)).length = (joinT t).length := by
  unfold joinT
  rw [flatH_pred, flatH_pred]
  unfold partsT caseT
  simp only [flatH_append, List.length_append]
  have h : (flatH (keepL [t.lang, t.ext, uppL (t.script.take 1) ++ t.script.drop 1, uppL t.region])).length = (flatH (keepL [t.lang, t.ext, t.script, t.region])).length :=
    keepL_len2 rfl _ _ (keepL_len2 rfl _ _ (keepL_len2 (by simp [uppL_len]; omega) _ _ (keepL_len2 (uppL_len _) _ _ rfl)))
  rw [h]
theorem flatH_mem {l : List (List UInt8)} {x : List UInt8} (h : x ∈ l) : x.length ≤ (flatH l).length := by
  induction l with
  | nil => cases h
  | cons p r ih =>
    have e1 : flatH (p :: r) = 45 :: p ++ flatH r := by simp [flatH]
    rw [e1, List.length_append, List.length_cons]
    rcases List.mem_cons.1 h with rfl | h
    · omega
    · have := ih h; omega
theorem keepL_mem {l : List (List UInt8)} {x : List UInt8} (h : x ∈ l) (hx : x ≠ []) : x ∈ keepL l := by
  unfold keepL
  rw [List.mem_filter]
  exact ⟨h, by simpa using hx⟩
theorem tag_part_len {lang ext script region : List UInt8} {vars exts : List (List UInt8)} {priv s : List UInt8} (h : joinT ⟨lang, ext, script, region, vars, exts, priv⟩ = s) (hs : s.length ≤ 1400000) : script.length ≤ 1400000 ∧ region.length ≤ 1400000 := by
  have hl : (flatH (keepL [lang, ext, script, region])).length ≤ s.length + 1 := by
    rw [← h]
    unfold joinT
    rw [flatH_pred]
    unfold partsT
    simp only [flatH_append, List.length_append]
    omega
  have hm : ∀ x ∈ [lang, ext, script, region], x.length ≤ 1400000 := fun x hx => by
    by_cases he : x = []
    · rw [he]; simp
    · rcases hq : keepL [lang, ext, script, region] with _ | ⟨p, r⟩
      · have := keepL_mem hx he; rw [hq] at this; cases this
      · have h1 := keepL_mem hx he
        rw [hq] at hl h1
        have e1 : flatH (p :: r) = 45 :: p ++ flatH r := by simp [flatH]
        rw [e1, List.length_append, List.length_cons] at hl
        rcases List.mem_cons.1 h1 with rfl | h2
        · omega
        · have := flatH_mem h2; omega
  exact ⟨hm script (by simp), hm region (by simp)⟩
theorem own_nil {w : World} {base : Nat} {e : TypeId} {a : Option Addr} {n c : Nat} {xs : List Value} (h : w.ownsRow base e 1 (.slice a n c) n xs) : a = none → c = 0 := by
  rintro rfl
  rcases h.2 with ⟨h, _⟩ | ⟨_, _, _, h, _⟩
  · cases h; rfl
  · cases h
theorem lowL_size (l : List UInt8) : (lowL l).length = l.length := by simp [lowL]
theorem partsT_vars {t : TagL} {s : List UInt8} (h : tagF s = some t) : t.vars.length ≤ s.length + 1 ∧ t.exts.length ≤ s.length + 1 := by
  have hj := tagF_join h
  have hf : (flatH (partsT t)).length ≤ s.length + 1 := by
    rw [← hj]; unfold joinT; rw [flatH_pred]; omega
  have hc : ∀ l : List (List UInt8), l.length ≤ (flatH l).length := fun l => by
    induction l with
    | nil => simp
    | cons p r ih =>
      have e1 : flatH (p :: r) = 45 :: p ++ flatH r := by simp [flatH]
      rw [e1, List.length_append, List.length_cons, List.length_cons]
      omega
  have h1 := hc (partsT t)
  unfold partsT at h1 hf
  simp only [List.length_append] at h1
  omega


set_option maxHeartbeats 3200000 in
theorem case_l (s : List UInt8) (w : World) (hM : MaxAt w) (hs : s.length ≤ 1400000) :
    Calls Tryd.prog 31 #[.string (B s)] w fun e w' => CasePost w w' e (caseF s) := by
  have LO := Lib.hid (lower_l s w (by unfold maxLen; omega))
  have TG := Lib.hid (fun u (h : Below w.heap.size w u) => tag_l (lowL s) u (hM.below h) (by rw [lowL_size]; omega))
  have UP := Lib.hid upper_l
  have JO := Lib.hid join_l
  cases ht : tagF (lowL s) with
  | none =>
    rw [ht] at TG
    have HE : Hid (caseF s = none) := Lib.hid (by unfold caseF; rw [ht]; rfl)
    clear ht
    go_enter Tryd.func31, Tryd.ntmps31
    go_wp2_with (first
      | (go_at_call 34; (with_reducible refine LO.out.mono ?_); rintro e w1 ⟨rfl, hb1⟩; have HB1 := Lib.hid hb1; clear hb1)
      | (go_at_call 29; (with_reducible refine (TG.out w1 HB1.out).mono ?_); rintro e w2 ⟨rfl, hb2⟩; have HB2 := Lib.hid (HB1.out.trans (hb2.mono HB1.out.size)); clear hb2; simp only [tagCells, noTag])
      | fail)
    go_ret2
    rw [HE.out]
    exact ⟨rfl, HB2.out.alloc HB2.out.size _⟩
  | some t =>
    rw [ht] at TG
    have hjt := tagF_join ht
    have hvl := partsT_vars ht
    rw [lowL_size] at hvl
    have HE : Hid (caseF s = some (joinT (caseT t))) := Lib.hid (by unfold caseF; rw [ht]; rfl)
    have hjl : (joinT (caseT t)).length ≤ 1400000 := by rw [caseT_len, hjt, lowL_size]; exact hs
    obtain ⟨lang, ext, script, region, vars, exts, priv⟩ := t
    have hlp : script.length ≤ 1400000 ∧ region.length ≤ 1400000 := tag_part_len hjt (by rw [lowL_size]; exact hs)
    simp only at hvl
    have UPR := Lib.hid (fun u => UP.out region u (by unfold maxLen; omega))
    have UPS := Lib.hid (fun u => UP.out (script.take 1) u (by simp; unfold maxLen; omega))
    clear ht hjt UP
    have HJL := Lib.hid hjl
    have HVL := Lib.hid hvl
    clear hjl hvl
    go_enter Tryd.func31, Tryd.ntmps31
    go_upto_if 21 with (first
      | (go_at_call 34; (with_reducible refine LO.out.mono ?_); rintro e w1 ⟨rfl, hb1⟩; have HB1 := Lib.hid hb1; clear hb1)
      | (go_at_call 29; (with_reducible refine (TG.out w1 HB1.out).mono ?_); rintro e w2 ⟨a1, a2, c1, c2, rfl, hb2, ho1, ho2, hap⟩; have HB2 := Lib.hid (HB1.out.trans (hb2.mono HB1.out.size)); have HO2 := Lib.hid (And.intro ho1 ho2); have HR3 := Lib.hid (rowAt_of_heap (w := w2.alloc (.cells #[.string (B lang), .string (B ext), .string (B script), .string (B region), .slice a1 vars.length c1, .slice a2 exts.length c2, .string (B priv)] 43)) (g := w2.heap.size) (L := [.string (B lang), .string (B ext), .string (B script), .string (B region), .slice a1 vars.length c1, .slice a2 exts.length c2, .string (B priv)]) (t := 43) (heap_alloc_last _ _)); clear hb2 ho1 ho2 hap; simp only [tagCells])
      | (go_at_call 78; (with_reducible refine (UPR.out _).mono ?_); rintro e w4 ⟨rfl, hb4⟩; have HR4 := Lib.hid (HR3.out.below hb4 (by simp)); have y0 := (row_of HR4.out 0 _ rfl).1; have y1 := (row_of HR4.out 1 _ rfl).1; have y2 := (row_of HR4.out 2 _ rfl).1; have y3 := (row_of HR4.out 3 _ rfl).1; have y4 := (row_of HR4.out 4 _ rfl).1; have y5 := (row_of HR4.out 5 _ rfl).1; have y6 := (row_of HR4.out 6 _ rfl).1; have f3 := (row_of HR4.out 3 _ rfl).2; have HB4 := Lib.hid hb4; clear hb4)
      | fail)
    have hs4 : w2.heap.size < w4.heap.size := World.block_lt_of_cell? _ _ y0
    have hg5 := grownBy_set w4 w2.heap.size 3 (.string (B (uppL region)))
    have HR5 := Lib.hid (HR4.out.set (j := 3) (by simp) (.string (B (uppL region))))
    have hb3 : Below w2.heap.size w2 (w2.alloc (.cells #[.string (B lang), .string (B ext), .string (B script), .string (B region), .slice a1 vars.length c1, .slice a2 exts.length c2, .string (B priv)] 43)) := (Below.refl _ _).alloc (Nat.le_refl _) _
    have hb5 : Below w2.heap.size w2 (w4.setCell ⟨w2.heap.size, 3, none⟩ (.string (B (uppL region)))) := (hb3.trans (HB4.out.mono (by simp))).grown hg5 (by omega) (fun j hj => by cases hj; exact Nat.le_refl _)
    have hs5 : w2.heap.size < (w4.setCell ⟨w2.heap.size, 3, none⟩ (.string (B (uppL region)))).heap.size := Nat.lt_of_lt_of_le hs4 hg5.size
    generalize w4.setCell ⟨w2.heap.size, 3, none⟩ (.string (B (uppL region))) = w5 at *
    have HB5 := Lib.hid hb5
    clear hb3 hb5 hg5 y0 y1 y2 y3 y4 y5 y6 f3 HR4 HB4 hs4
    have y0 := (row_of HR5.out 0 _ rfl).1; have y1 := (row_of HR5.out 1 _ rfl).1; have y2 := (row_of HR5.out 2 _ rfl).1; have y3 := (row_of HR5.out 3 _ rfl).1; have y4 := (row_of HR5.out 4 _ rfl).1; have y5 := (row_of HR5.out 5 _ rfl).1; have y6 := (row_of HR5.out 6 _ rfl).1
    have f2 := (row_of HR5.out 2 _ rfl).2
    cases hsc : (script == []) with
    | true =>
      obtain rfl : script = [] := by simpa using hsc
      have hsc2 : ([] : List UInt8).isEmpty = true := rfl
      clear hsc
      obtain ⟨_, _, he1, _, _, hA1⟩ := ownsRow_at HO2.out.1
      cases he1
      obtain ⟨_, _, he2, _, _, hA2⟩ := ownsRow_at HO2.out.2
      cases he2
      have JJ := Lib.hid (JO.out ⟨lang, ext, [], uppL region, vars, exts, priv⟩ a1 a2 c1 c2 w5 (by show vars.length ≤ _; have := HVL.out.1; omega) (by show exts.length ≤ _; have := HVL.out.2; omega) (Nat.le_trans HJL.out (by omega)) (hA1.below HB5.out) (hA2.below HB5.out) (own_nil HO2.out.1) (own_nil HO2.out.2))
      have HJE : Hid (joinT ⟨lang, ext, [], uppL region, vars, exts, priv⟩ = joinT (caseT ⟨lang, ext, [], region, vars, exts, priv⟩)) := Lib.hid rfl
      simp only [tagCells] at JJ
      clear hA1 hA2
      go_wp2_with (go_at_call 37; (with_reducible refine JJ.out.mono ?_); rintro e w6 ⟨rfl, hb6⟩; have HB6 := Lib.hid hb6; clear hb6)
      go_ret2
      rw [HE.out, ← HJE.out]
      exact ⟨rfl, HB2.out.trans ((HB5.out.trans (HB6.out.mono HB5.out.size)).mono HB2.out.size)⟩
    | false =>
      have hsc2 : script.isEmpty = false := by cases script with | nil => cases hsc | cons c d => rfl
      have hsl : (1 : Int) ≤ (script.length : Int) := by cases script with | nil => cases hsc | cons c d => simp; omega
      have hlp1 := hlp.1
      have HLP := Lib.hid hlp
      clear hsc hlp
      rw [hsc2, Bool.not_false]
      go_upto_region 6 with fail
      have hcl : (uppL (script.take 1)).length + (script.length - 1) ≤ 140737488355328 := by rw [uppL_len]; simp; omega
      have htk : List.take (script.length - 1) script.tail = script.tail := List.take_of_length_le (by simp)
      obtain ⟨hd, hhd⟩ : ∃ hd, uppL (script.take 1) = hd := ⟨_, rfl⟩
      rw [hhd] at UPS hcl
      have HHD := Lib.hid hhd
      have hcn : ¬ (9223372036854775807 < hd.length + (script.length - 1)) := by omega
      clear hhd
      go_region_law (first
        | (go_simp; go_at_call 78; (with_reducible refine (UPS.out _).mono ?_); rintro e w7 ⟨rfl, hb7⟩; have HB7 : Hid (Below w5.heap.size w5 w7) := Lib.hid ((Below.refl _ _).drew.trans hb7); have HR7 := Lib.hid (HR5.out.below HB7.out hs5); have x0 := (row_of HR7.out 0 _ rfl).1; have x1 := (row_of HR7.out 1 _ rfl).1; have x2 := (row_of HR7.out 2 _ rfl).1; have x3 := (row_of HR7.out 3 _ rfl).1; have x4 := (row_of HR7.out 4 _ rfl).1; have x5 := (row_of HR7.out 5 _ rfl).1; have x6 := (row_of HR7.out 6 _ rfl).1; have g2 := (row_of HR7.out 2 _ rfl).2; clear hb7)
        | fail)
      all_goals go_wp2_with fail
      all_goals
        have hg8 := grownBy_set w7 w2.heap.size 2 (.string (B (hd ++ script.tail)))
        have hb7 := HB5.out.trans (HB7.out.mono (Nat.le_of_lt hs5))
        have hb8 : Below w2.heap.size w2 (w7.setCell ⟨w2.heap.size, 2, none⟩ (.string (B (hd ++ script.tail)))) := hb7.grown hg8 hb7.size (fun j hj => by cases hj; exact Nat.le_refl _)
        have HB8 := Lib.hid hb8
        clear hg8 hb7 hb8
        obtain ⟨_, _, he1, _, _, hA1⟩ := ownsRow_at HO2.out.1
        cases he1
        obtain ⟨_, _, he2, _, _, hA2⟩ := ownsRow_at HO2.out.2
        cases he2
        have hJE : joinT ⟨lang, ext, hd ++ script.tail, uppL region, vars, exts, priv⟩ = joinT (caseT ⟨lang, ext, script, region, vars, exts, priv⟩) := by
          unfold caseT
          simp only
          rw [HHD.out, List.drop_one]
        have HJE := Lib.hid hJE
        have JJ := JO.out ⟨lang, ext, hd ++ script.tail, uppL region, vars, exts, priv⟩ a1 a2 c1 c2 (w7.setCell ⟨w2.heap.size, 2, none⟩ (.string (B (hd ++ script.tail)))) (by show vars.length ≤ _; have := HVL.out.1; omega) (by show exts.length ≤ _; have := HVL.out.2; omega) (by rw [hJE]; exact Nat.le_trans HJL.out (by omega)) (hA1.below HB8.out) (hA2.below HB8.out) (own_nil HO2.out.1) (own_nil HO2.out.2)
        clear hA1 hA2 hJE
        refine JJ.mono ?_
        rintro e w9 ⟨rfl, hb9⟩
        have HB9 := Lib.hid hb9
        clear hb9 JJ
        go_wp2_with fail
        go_ret2
        rw [HE.out, ← HJE.out]
        exact ⟨rfl, HB2.out.trans ((HB8.out.trans (HB9.out.mono HB8.out.size)).mono HB2.out.size)⟩

set_option maxHeartbeats 3200000 in
theorem refCase_l (s : List UInt8) (w : World) (hs : s.length ≤ 1400000) :
    Calls Tryd.prog 32 #[.string (B s)] w fun e w' => CasePost w w' e (caseF s) := by
  have LO := Lib.hid (refLower_l s w (by unfold maxLen; omega))
  have TG := Lib.hid (fun u (h : Below w.heap.size w u) => refTag_l (lowL s) u (by rw [lowL_size]; omega))
  have UP := Lib.hid refUpper_l
  have JO := Lib.hid refJoin_l
  cases ht : tagF (lowL s) with
  | none =>
    rw [ht] at TG
    have HE : Hid (caseF s = none) := Lib.hid (by unfold caseF; rw [ht]; rfl)
    clear ht
    go_enter Tryd.func32, Tryd.ntmps32
    go_wp2_with (first
      | (go_at_call 35; (with_reducible refine LO.out.mono ?_); rintro e w1 ⟨rfl, hb1⟩; have HB1 := Lib.hid hb1; clear hb1)
      | (go_at_call 30; (with_reducible refine (TG.out w1 HB1.out).mono ?_); rintro e w2 ⟨rfl, hb2⟩; have HB2 := Lib.hid (HB1.out.trans (hb2.mono HB1.out.size)); clear hb2; simp only [tagCells, noTag])
      | fail)
    go_ret2
    rw [HE.out]
    exact ⟨rfl, HB2.out.alloc HB2.out.size _⟩
  | some t =>
    rw [ht] at TG
    have hjt := tagF_join ht
    have hvl := partsT_vars ht
    rw [lowL_size] at hvl
    have HE : Hid (caseF s = some (joinT (caseT t))) := Lib.hid (by unfold caseF; rw [ht]; rfl)
    have hjl : (joinT (caseT t)).length ≤ 1400000 := by rw [caseT_len, hjt, lowL_size]; exact hs
    obtain ⟨lang, ext, script, region, vars, exts, priv⟩ := t
    have hlp : script.length ≤ 1400000 ∧ region.length ≤ 1400000 := tag_part_len hjt (by rw [lowL_size]; exact hs)
    simp only at hvl
    have UPR := Lib.hid (fun u => UP.out region u (by unfold maxLen; omega))
    have UPS := Lib.hid (fun u => UP.out (script.take 1) u (by simp; unfold maxLen; omega))
    clear ht hjt UP
    have HJL := Lib.hid hjl
    have HVL := Lib.hid hvl
    clear hjl hvl
    go_enter Tryd.func32, Tryd.ntmps32
    go_upto_if 21 with (first
      | (go_at_call 35; (with_reducible refine LO.out.mono ?_); rintro e w1 ⟨rfl, hb1⟩; have HB1 := Lib.hid hb1; clear hb1)
      | (go_at_call 30; (with_reducible refine (TG.out w1 HB1.out).mono ?_); rintro e w2 ⟨a1, a2, c1, c2, rfl, hb2, ho1, ho2, hap⟩; have HB2 := Lib.hid (HB1.out.trans (hb2.mono HB1.out.size)); have HO2 := Lib.hid (And.intro ho1 ho2); have HR3 := Lib.hid (rowAt_of_heap (w := w2.alloc (.cells #[.string (B lang), .string (B ext), .string (B script), .string (B region), .slice a1 vars.length c1, .slice a2 exts.length c2, .string (B priv)] 43)) (g := w2.heap.size) (L := [.string (B lang), .string (B ext), .string (B script), .string (B region), .slice a1 vars.length c1, .slice a2 exts.length c2, .string (B priv)]) (t := 43) (heap_alloc_last _ _)); clear hb2 ho1 ho2 hap; simp only [tagCells])
      | (go_at_call 79; (with_reducible refine (UPR.out _).mono ?_); rintro e w4 ⟨rfl, hb4⟩; have HR4 := Lib.hid (HR3.out.below hb4 (by simp)); have y0 := (row_of HR4.out 0 _ rfl).1; have y1 := (row_of HR4.out 1 _ rfl).1; have y2 := (row_of HR4.out 2 _ rfl).1; have y3 := (row_of HR4.out 3 _ rfl).1; have y4 := (row_of HR4.out 4 _ rfl).1; have y5 := (row_of HR4.out 5 _ rfl).1; have y6 := (row_of HR4.out 6 _ rfl).1; have f3 := (row_of HR4.out 3 _ rfl).2; have HB4 := Lib.hid hb4; clear hb4)
      | fail)
    have hs4 : w2.heap.size < w4.heap.size := World.block_lt_of_cell? _ _ y0
    have hg5 := grownBy_set w4 w2.heap.size 3 (.string (B (uppL region)))
    have HR5 := Lib.hid (HR4.out.set (j := 3) (by simp) (.string (B (uppL region))))
    have hb3 : Below w2.heap.size w2 (w2.alloc (.cells #[.string (B lang), .string (B ext), .string (B script), .string (B region), .slice a1 vars.length c1, .slice a2 exts.length c2, .string (B priv)] 43)) := (Below.refl _ _).alloc (Nat.le_refl _) _
    have hb5 : Below w2.heap.size w2 (w4.setCell ⟨w2.heap.size, 3, none⟩ (.string (B (uppL region)))) := (hb3.trans (HB4.out.mono (by simp))).grown hg5 (by omega) (fun j hj => by cases hj; exact Nat.le_refl _)
    have hs5 : w2.heap.size < (w4.setCell ⟨w2.heap.size, 3, none⟩ (.string (B (uppL region)))).heap.size := Nat.lt_of_lt_of_le hs4 hg5.size
    generalize w4.setCell ⟨w2.heap.size, 3, none⟩ (.string (B (uppL region))) = w5 at *
    have HB5 := Lib.hid hb5
    clear hb3 hb5 hg5 y0 y1 y2 y3 y4 y5 y6 f3 HR4 HB4 hs4
    have y0 := (row_of HR5.out 0 _ rfl).1; have y1 := (row_of HR5.out 1 _ rfl).1; have y2 := (row_of HR5.out 2 _ rfl).1; have y3 := (row_of HR5.out 3 _ rfl).1; have y4 := (row_of HR5.out 4 _ rfl).1; have y5 := (row_of HR5.out 5 _ rfl).1; have y6 := (row_of HR5.out 6 _ rfl).1
    have f2 := (row_of HR5.out 2 _ rfl).2
    cases hsc : (script == []) with
    | true =>
      obtain rfl : script = [] := by simpa using hsc
      have hsc2 : ([] : List UInt8).isEmpty = true := rfl
      clear hsc
      obtain ⟨_, _, he1, _, _, hA1⟩ := ownsRow_at HO2.out.1
      cases he1
      obtain ⟨_, _, he2, _, _, hA2⟩ := ownsRow_at HO2.out.2
      cases he2
      have JJ := Lib.hid (JO.out ⟨lang, ext, [], uppL region, vars, exts, priv⟩ a1 a2 c1 c2 w5 (by show vars.length ≤ _; have := HVL.out.1; omega) (by show exts.length ≤ _; have := HVL.out.2; omega) (Nat.le_trans HJL.out (by omega)) (hA1.below HB5.out) (hA2.below HB5.out) (own_nil HO2.out.1) (own_nil HO2.out.2))
      have HJE : Hid (joinT ⟨lang, ext, [], uppL region, vars, exts, priv⟩ = joinT (caseT ⟨lang, ext, [], region, vars, exts, priv⟩)) := Lib.hid rfl
      simp only [tagCells] at JJ
      clear hA1 hA2
      go_wp2_with (go_at_call 80; (with_reducible refine JJ.out.mono ?_); rintro e w6 ⟨rfl, hb6⟩; have HB6 := Lib.hid hb6; clear hb6)
      go_ret2
      rw [HE.out, ← HJE.out]
      exact ⟨rfl, HB2.out.trans ((HB5.out.trans (HB6.out.mono HB5.out.size)).mono HB2.out.size)⟩
    | false =>
      have hsc2 : script.isEmpty = false := by cases script with | nil => cases hsc | cons c d => rfl
      have hsl : (1 : Int) ≤ (script.length : Int) := by cases script with | nil => cases hsc | cons c d => simp; omega
      have hlp1 := hlp.1
      have HLP := Lib.hid hlp
      clear hsc hlp
      rw [hsc2, Bool.not_false]
      go_upto_region 6 with fail
      have hcl : (uppL (script.take 1)).length + (script.length - 1) ≤ 140737488355328 := by rw [uppL_len]; simp; omega
      have htk : List.take (script.length - 1) script.tail = script.tail := List.take_of_length_le (by simp)
      obtain ⟨hd, hhd⟩ : ∃ hd, uppL (script.take 1) = hd := ⟨_, rfl⟩
      rw [hhd] at UPS hcl
      have HHD := Lib.hid hhd
      have hcn : ¬ (9223372036854775807 < hd.length + (script.length - 1)) := by omega
      clear hhd
      go_region_law (first
        | (go_simp; go_at_call 79; (with_reducible refine (UPS.out _).mono ?_); rintro e w7 ⟨rfl, hb7⟩; have HB7 : Hid (Below w5.heap.size w5 w7) := Lib.hid ((Below.refl _ _).drew.trans hb7); have HR7 := Lib.hid (HR5.out.below HB7.out hs5); have x0 := (row_of HR7.out 0 _ rfl).1; have x1 := (row_of HR7.out 1 _ rfl).1; have x2 := (row_of HR7.out 2 _ rfl).1; have x3 := (row_of HR7.out 3 _ rfl).1; have x4 := (row_of HR7.out 4 _ rfl).1; have x5 := (row_of HR7.out 5 _ rfl).1; have x6 := (row_of HR7.out 6 _ rfl).1; have g2 := (row_of HR7.out 2 _ rfl).2; clear hb7)
        | fail)
      all_goals go_wp2_with fail
      all_goals
        have hg8 := grownBy_set w7 w2.heap.size 2 (.string (B (hd ++ script.tail)))
        have hb7 := HB5.out.trans (HB7.out.mono (Nat.le_of_lt hs5))
        have hb8 : Below w2.heap.size w2 (w7.setCell ⟨w2.heap.size, 2, none⟩ (.string (B (hd ++ script.tail)))) := hb7.grown hg8 hb7.size (fun j hj => by cases hj; exact Nat.le_refl _)
        have HB8 := Lib.hid hb8
        clear hg8 hb7 hb8
        obtain ⟨_, _, he1, _, _, hA1⟩ := ownsRow_at HO2.out.1
        cases he1
        obtain ⟨_, _, he2, _, _, hA2⟩ := ownsRow_at HO2.out.2
        cases he2
        have hJE : joinT ⟨lang, ext, hd ++ script.tail, uppL region, vars, exts, priv⟩ = joinT (caseT ⟨lang, ext, script, region, vars, exts, priv⟩) := by
          unfold caseT
          simp only
          rw [HHD.out, List.drop_one]
        have HJE := Lib.hid hJE
        have JJ := JO.out ⟨lang, ext, hd ++ script.tail, uppL region, vars, exts, priv⟩ a1 a2 c1 c2 (w7.setCell ⟨w2.heap.size, 2, none⟩ (.string (B (hd ++ script.tail)))) (by show vars.length ≤ _; have := HVL.out.1; omega) (by show exts.length ≤ _; have := HVL.out.2; omega) (by rw [hJE]; exact Nat.le_trans HJL.out (by omega)) (hA1.below HB8.out) (hA2.below HB8.out) (own_nil HO2.out.1) (own_nil HO2.out.2)
        clear hA1 hA2 hJE
        refine JJ.mono ?_
        rintro e w9 ⟨rfl, hb9⟩
        have HB9 := Lib.hid hb9
        clear hb9 JJ
        go_wp2_with fail
        go_ret2
        rw [HE.out, ← HJE.out]
        exact ⟨rfl, HB2.out.trans ((HB8.out.trans (HB9.out.mono HB8.out.size)).mono HB2.out.size)⟩
end Go.Proofs.YtfjcbodkjjmagaaDoor
