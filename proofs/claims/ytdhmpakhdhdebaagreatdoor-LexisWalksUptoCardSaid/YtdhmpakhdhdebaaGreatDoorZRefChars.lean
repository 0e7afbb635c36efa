/-
  Which scalars may stand where, in the reference: contracts. By an AI agent.
-/
import Derived.Test.YtdhmpakhdhdebaaGreatDoorZChars
namespace Go.Proofs.YtdhmpakhdhdebaaGreatDoor
open Go.Lib (hid)
open Go.RowKit
set_option maxRecDepth 100000
theorem refDigit_any (r : Int) (w : World) : Calls Tryz.prog 183 #[.int .i64 r] w fun e w' => e = .returned (.bool (digitB r)) /\ w' = w := by
 by_cases h1 : 48 <= r
 ·by_cases h2 : r <= 57
  ·have HF : Hid (digitB r = true) := hid (decide_eq_true ⟨h1, h2⟩)
   go_enter Tryz.func183, Tryz.ntmps183
   go_wp2
   go_ret
   exact ⟨ret_bool (Eq.trans (by first | rfl | (simp; done) | (simp; omega)) HF.out.symm), rfl⟩
  ·have HF : Hid (digitB r = false) := hid (decide_eq_false (by omega))
   go_enter Tryz.func183, Tryz.ntmps183
   go_wp2
   go_ret
   exact ⟨ret_bool (Eq.trans (by first | rfl | (simp; done) | (simp; omega)) HF.out.symm), rfl⟩
 ·have HF : Hid (digitB r = false) := hid (decide_eq_false (by omega))
  go_enter Tryz.func183, Tryz.ntmps183
  go_wp2
  go_ret
  exact ⟨ret_bool (Eq.trans (by first | rfl | (simp; done) | (simp; omega)) HF.out.symm), rfl⟩
def ranges14 : List (Int × Int) := (65, 90) :: (97, 122) :: ranges
def flat : List (Int × Int) -> List Value
 | [] => []
 | p :: r => .int .i64 p.1 :: .int .i64 p.2 :: flat r
theorem flat_at : ∀ (l : List (Int × Int)) (k : Nat) (h : k < l.length), (flat l)[2 * k]? = some (.int .i64 l[k].1) /\ (flat l)[2 * k + 1]? = some (.int .i64 l[k].2)
 | p :: r, 0, _ => ⟨rfl, rfl⟩
 | p :: r, k + 1, h => by
  have := flat_at r k (by simpa using h)
  rw [show 2 * (k + 1) = 2 * k + 1 + 1 by omega]
  simpa [flat] using this
def basesV : Value := .agg (flat ranges14).toArray
theorem info28 : (Tryz.prog.info? 228).map (·.size) = some 28 := by kernel_rfl
theorem flat_cells : (flat ranges14).toArray.all (·.oneCell') = true := by decide +kernel
theorem bases_any (w : World) : Calls Tryz.prog 161 #[] w fun e w' => e = .returned basesV /\ Below w.heap.size w w' := by
 obtain ⟨cells, hcells⟩ : ∃ c, (flat ranges14).toArray = c := ⟨_, rfl⟩
 have hall := flat_cells
 have hsz : cells.size = 28 := by rw [<- hcells]; rfl
 rw [hcells] at hall
 have hb : basesV = .agg cells := by rw [<- hcells]; rfl
 have HC := hid hcells; have HA := hid hall; have HS := hid hsz; have HB := hid hb
 clear hcells hall hsz hb
 go_enter Tryz.func161, Tryz.ntmps161
 go_wp2_with (with_reducible refine wpList_store_row rfl 228 (.tmp 0) (.tmp 1) rfl w.heap.size rfl 228 _ cells ?h1 (heap_alloc_last w _) ?h2 ?h3 HA.out ?_)
 case h1 => rw [<- HC.out]; rfl
 case h2 => rw [HS.out]; exact info28
 case h3 => rw [HS.out]; rfl
 rw [World.setRow_alloc_new]
 refine bodyPost_ret (v := basesV) ?_ rfl ⟨rfl, (Below.refl _ _).alloc (Nat.le_refl _) _⟩
 rw [results_cell_row (p := 0) (ty := 228) rfl _ _ w.heap.size 228 cells (0, 0) _ rfl (heap_alloc_last w _) Tryz.underlying228 rfl (by rw [HS.out]; exact info28), HB.out]
set_option maxHeartbeats 800000 in
theorem refBase_any (r : Int) (w : World) : Calls Tryz.prog 112 #[.int .i64 r] w fun e w' => e = .returned (.bool (baseB r)) /\ Below w.heap.size w w' := by
 obtain ⟨cells, hcells⟩ : ∃ c, (flat ranges14).toArray = c := ⟨_, rfl⟩
 have hall := flat_cells
 have hsz : cells.size = 28 := by rw [<- hcells]; rfl
 rw [hcells] at hall
 have hb : basesV = .agg cells := by rw [<- hcells]; rfl
 have hat : ∀ k (h : k < ranges14.length), cells[2 * k]? = some (.int .i64 ranges14[k].1) /\ cells[2 * k + 1]? = some (.int .i64 ranges14[k].2) := fun k h => by
  rw [<- hcells]
  simpa using flat_at ranges14 k h
 have BAS : Hid (∀ w : World, Calls Tryz.prog 161 #[] w fun e w' => e = .returned (.agg cells) /\ Below w.heap.size w w') := hid (fun w => hb ▸ bases_any w)
 have HA := hid hall; have HS := hid hsz; have HT := hid hat
 clear hcells hall hsz hb hat
 go_enter Tryz.func112, Tryz.ntmps112
 go_wp2_with (first | (go_at_call 161; refine (BAS.out _).mono ?_; rintro e w1 ⟨rfl, hb1⟩) | (with_reducible refine wpList_store_row rfl 228 (.tmp 3) (.tmp 5) rfl w1.heap.size rfl 228 _ cells rfl (heap_alloc_last w1 _) ?h2 ?h3 HA.out ?_))
 case h2 => rw [HS.out]; exact info28
 case h3 => rw [HS.out]; rfl
 rw [World.setRow_alloc_new]
 have hb2 : Below w.heap.size w (w1.alloc (.cells cells 228)) := hb1.alloc hb1.size _
 have hcell : ∀ j v, cells[j]? = some v -> (w1.alloc (.cells cells 228)).cell? ⟨w1.heap.size, j, none⟩ = some v := fun j v h => by rw [World.cell?_alloc_new]; exact h
 have HCE := hid hcell
 clear hcell hb1
 go_wp2_with fail
 go_loop [4] (fun i => ∃ m k : Nat, i = .int .i64 m /\ m <= 28 /\ Hid (m = 2 * k /\ baseB r = (ranges14.drop k).any (inOne r))) (fun i => 28 - (intOf i).toNat)
 case atStart => exact ⟨0, 0, rfl, by omega, hid ⟨rfl, rfl⟩⟩
 case round =>
  obtain ⟨m, k, rfl, hm, HK⟩ := hrel
  by_cases hlt : m < 28
  ·have hk : k < ranges14.length := by have := HK.out.1; show k < 14; omega
   have t1 := HCE.out _ _ (HT.out k hk).1
   have t2 := HCE.out _ _ (HT.out k hk).2
   have hstep := HK.out.2
   rw [List.drop_eq_getElem_cons hk, List.any_cons] at hstep
   obtain ⟨p, hp⟩ : ∃ p, ranges14[k] = p := ⟨_, rfl⟩
   rw [hp] at t1 t2 hstep
   have hmk := HK.out.1
   have hm2 : m + 1 < 28 := by omega
   rw [<- hmk] at t1 t2
   have HM := hid hmk
   have HST := hid hstep
   clear hp hmk hstep
   by_cases c1 : p.1 <= r
   ·by_cases c2 : r <= p.2
    ·have HE : Hid (baseB r = true) := hid (by rw [HST.out, inOne_true c1 c2]; rfl)
     go_wp2_with fail
     go_ret
     exact ⟨ret_bool HE.out.symm, hb2⟩
    ·have HE : Hid (m + 2 = 2 * (k + 1) /\ baseB r = (ranges14.drop (k + 1)).any (inOne r)) := hid ⟨by have := HM.out; omega, by rw [HST.out, inOne_false (.inr (by omega))]; rfl⟩
     go_wp2_with fail
     go_round
     case rel => exact ⟨m + 2, k + 1, by go_num, by have := HM.out; omega, HE⟩
     case measure => simp [intOf]; omega
   ·have HE : Hid (m + 2 = 2 * (k + 1) /\ baseB r = (ranges14.drop (k + 1)).any (inOne r)) := hid ⟨by have := HM.out; omega, by rw [HST.out, inOne_false (.inl (by omega))]; rfl⟩
    go_wp2_with fail
    go_round
    case rel => exact ⟨m + 2, k + 1, by go_num, by have := HM.out; omega, HE⟩
    case measure => simp [intOf]; omega
  ·have HE : Hid (baseB r = false) := hid (by have h1 := HK.out.1; have h2 := HK.out.2; rw [show k = 14 by omega] at h2; exact h2)
   go_wp2_with fail
   go_ret
   exact ⟨ret_bool HE.out.symm, hb2⟩
theorem refStart_any (r : Int) (w : World) : Calls Tryz.prog 182 #[.int .i64 r] w fun e w' => e = .returned (.bool (startB r)) /\ Below w.heap.size w w' := by
 have BASE := hid (refBase_any r w)
 cases hb : baseB r with
 | true =>
  have HF : Hid (startB r = true) := hid (by unfold startB; rw [hb]; rfl)
  go_enter Tryz.func182, Tryz.ntmps182
  go_wp2_with (go_at_call 112; refine BASE.out.mono ?_; rintro e w1 ⟨rfl, hb1⟩)
  go_ret
  exact ⟨ret_bool (Eq.trans (by first | rfl | (simp; done) | (simp; omega)) HF.out.symm), hb1⟩
 | false =>
  have HF : Hid (startB r = (r == 95)) := hid (by unfold startB; rw [hb, Bool.false_or]; exact (Bool.beq_eq_decide_eq _ _).symm)
  go_enter Tryz.func182, Tryz.ntmps182
  go_wp2_with (go_at_call 112; refine BASE.out.mono ?_; rintro e w1 ⟨rfl, hb1⟩)
  go_ret
  exact ⟨ret_bool HF.out.symm, hb1⟩
set_option maxHeartbeats 800000 in
theorem refFollow_any (r : Int) (w : World) : Calls Tryz.prog 184 #[.int .i64 r] w fun e w' => e = .returned (.bool (followB r)) /\ Below w.heap.size w w' := by
 have ST := hid (refStart_any r w)
 have DIG := hid (refDigit_any r)
 cases hb : startB r with
 | true =>
  have HF : Hid (followB r = true) := hid (by unfold followB; rw [hb]; rfl)
  go_enter Tryz.func184, Tryz.ntmps184
  go_wp2_with (first | (go_at_call 182; refine ST.out.mono ?_; rintro e w1 ⟨rfl, hb1⟩) | (go_at_call 183; refine (DIG.out _).mono ?_; rintro e w2 ⟨rfl, rfl⟩))
  go_ret
  exact ⟨ret_bool HF.out.symm, ‹_›⟩
 | false =>
  by_cases h45 : r = 45
  ·subst h45
   have HF : Hid (followB 45 = true) := hid (by unfold followB; rw [hb]; decide)
   go_enter Tryz.func184, Tryz.ntmps184
   go_wp2_with (first | (go_at_call 182; refine ST.out.mono ?_; rintro e w1 ⟨rfl, hb1⟩) | (go_at_call 183; refine (DIG.out _).mono ?_; rintro e w2 ⟨rfl, rfl⟩))
   go_ret
   exact ⟨ret_bool HF.out.symm, ‹_›⟩
  have e45 : (r == 45) = false := beq_eq_false_iff_ne.2 h45
  cases hd : digitB r with
  | true =>
   have HF : Hid (followB r = true) := hid (by unfold followB; rw [hb, hd]; rfl)
   clear h45
   go_enter Tryz.func184, Tryz.ntmps184
   go_wp2_with (first | (go_at_call 182; refine ST.out.mono ?_; rintro e w1 ⟨rfl, hb1⟩) | (go_at_call 183; refine (DIG.out _).mono ?_; rintro e w2 ⟨rfl, rfl⟩))
   go_ret
   exact ⟨ret_bool HF.out.symm, ‹_›⟩
  | false =>
   have HF : ∀ q, (decide (r = 45) || decide (r = 183) || decide (768 <= r /\ r <= 879) || decide (8255 <= r /\ r <= 8256)) = q -> followB r = q := fun q h => by unfold followB; rw [hb, hd, <- h]; simp only [Bool.or_assoc, Bool.false_or]
   have HH := hid HF
   clear HF
   by_cases h183 : r = 183
   ·have HQ := hid (HH.out true (by rw [decide_eq_true h183]; simp))
    have e183 : (r == 183) = true := beq_iff_eq.2 h183
    clear h183 h45
    go_enter Tryz.func184, Tryz.ntmps184
    go_wp2_with (first | (go_at_call 182; refine ST.out.mono ?_; rintro e w1 ⟨rfl, hb1⟩) | (go_at_call 183; refine (DIG.out _).mono ?_; rintro e w2 ⟨rfl, rfl⟩))
    go_ret
    exact ⟨ret_bool HQ.out.symm, ‹_›⟩
   have e183 : (r == 183) = false := beq_eq_false_iff_ne.2 h183
   by_cases hm : 768 <= r /\ r <= 879
   ·have HQ := hid (HH.out true (by rw [decide_eq_true hm]; simp))
    obtain ⟨m1, m2⟩ := hm
    clear h183 h45
    go_enter Tryz.func184, Tryz.ntmps184
    go_wp2_with (first | (go_at_call 182; refine ST.out.mono ?_; rintro e w1 ⟨rfl, hb1⟩) | (go_at_call 183; refine (DIG.out _).mono ?_; rintro e w2 ⟨rfl, rfl⟩))
    go_ret
    exact ⟨ret_bool HQ.out.symm, ‹_›⟩
   by_cases h3 : r = 8255
   ·subst h3
    have HQ := hid (HH.out true (by decide))
    clear h183 h45 hm
    go_enter Tryz.func184, Tryz.ntmps184
    go_wp2_with (first | (go_at_call 182; refine ST.out.mono ?_; rintro e w1 ⟨rfl, hb1⟩) | (go_at_call 183; refine (DIG.out _).mono ?_; rintro e w2 ⟨rfl, rfl⟩))
    go_ret
    exact ⟨ret_bool HQ.out.symm, ‹_›⟩
   by_cases h4 : r = 8256
   ·subst h4
    have HQ := hid (HH.out true (by decide))
    clear h183 h45 hm
    go_enter Tryz.func184, Tryz.ntmps184
    go_wp2_with (first | (go_at_call 182; refine ST.out.mono ?_; rintro e w1 ⟨rfl, hb1⟩) | (go_at_call 183; refine (DIG.out _).mono ?_; rintro e w2 ⟨rfl, rfl⟩))
    go_ret
    exact ⟨ret_bool HQ.out.symm, ‹_›⟩
   have HQ := hid (HH.out false (by rw [decide_eq_false h45, decide_eq_false h183, decide_eq_false hm, decide_eq_false (p := 8255 <= r /\ r <= 8256) (by omega)]; rfl))
   have e3 : (r == 8255) = false := beq_eq_false_iff_ne.2 h3
   have e4 : (r == 8256) = false := beq_eq_false_iff_ne.2 h4
   by_cases a1 : 768 <= r
   ·have a2 : decide (r <= 879) = false := decide_eq_false (by omega)
    clear h183 h45 hm h3 h4
    go_enter Tryz.func184, Tryz.ntmps184
    go_wp2_with (first | (go_at_call 182; refine ST.out.mono ?_; rintro e w1 ⟨rfl, hb1⟩) | (go_at_call 183; refine (DIG.out _).mono ?_; rintro e w2 ⟨rfl, rfl⟩))
    go_ret
    exact ⟨ret_bool HQ.out.symm, ‹_›⟩
   ·clear h183 h45 hm h3 h4
    go_enter Tryz.func184, Tryz.ntmps184
    go_wp2_with (first | (go_at_call 182; refine ST.out.mono ?_; rintro e w1 ⟨rfl, hb1⟩) | (go_at_call 183; refine (DIG.out _).mono ?_; rintro e w2 ⟨rfl, rfl⟩))
    go_ret
    exact ⟨ret_bool HQ.out.symm, ‹_›⟩
end Go.Proofs.YtdhmpakhdhdebaaGreatDoor
