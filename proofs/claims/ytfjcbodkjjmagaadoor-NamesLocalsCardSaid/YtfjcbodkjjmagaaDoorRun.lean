/-
  names.run and LabelAt, and the reference's LabelAt: contracts. By an AI agent.
-/
import Derived.Test.YtfjcbodkjjmagaaDoorRun0
import Derived.Test.YtfjcbodkjjmagaaDoorRefChars
import Derived.Test.YtfjcbodkjjmagaaDoorRefNext
namespace Go.Proofs.YtfjcbodkjjmagaaDoor
open Go.RowKit
set_option maxRecDepth 100000

set_option maxHeartbeats 1600000 in
theorem run_labels (l : List UInt8) (i : Int) (w : World) (hl : l.length ≤ 4611686018427387904) (hi : -9223372036854775808 ≤ i ∧ i ≤ 9223372036854775807) (hT : TabAt w) :
    Calls Tryd.prog 39 #[.string (B l), .int .i64 i, .func (Fn.func 40) #[] #[]] w fun e w' => e = .returned (.int .i64 (runF labelB l i : Nat)) ∧ w' = w := by
  have NEXT := Lib.hid (fun (j : Int) (hj : -9223372036854775808 ≤ j ∧ j ≤ 9223372036854775807) (v : Int) (n : Nat) (h : nextAt l j = (v, n)) => h ▸ next_l l j w hl hj)
  have FOL := Lib.hid (fun r => follow_any r w hT)
  have FST := Lib.hid (fun r => labels_any r w hT)
  clear hT
  obtain ⟨v, n, hp⟩ : ∃ v n, nextAt l i = (v, n) := ⟨_, _, rfl⟩
  have N1 := Lib.hid (NEXT.out i hi v n hp)
  by_cases hn : n = 0
  · have HF : Hid (runF labelB l i = 0) := Lib.hid (runF_no hp (.inl hn))
    have e0 : ((n : Int) == 0) = true := by rw [hn]; rfl
    clear hp hn
    go_enter Tryd.func39, Tryd.ntmps39
    go_wp2_with (go_at_call 49; refine N1.out.mono ?_; rintro e w1 ⟨rfl, rfl⟩; unfold pairV)
    go_ret
    exact ⟨by rw [HF.out]; rfl, rfl⟩
  have e0 : ((n : Int) == 0) = false := beq_eq_false_iff_ne.2 (by omega)
  have hb := nextAt_bound hp hn
  cases hf : labelB v with
  | false =>
    have HF : Hid (runF labelB l i = 0) := Lib.hid (runF_no hp (.inr hf))
    clear hp hn hb
    go_enter Tryd.func39, Tryd.ntmps39
    go_wp2_with (first | (go_at_call 49; refine N1.out.mono ?_; rintro e w1 ⟨rfl, rfl⟩; unfold pairV) | (go_at_call 40; refine (FST.out v).mono ?_; rintro e w1 ⟨rfl, rfl⟩))
    go_ret
    exact ⟨by rw [HF.out]; rfl, rfl⟩
  | true =>
    obtain ⟨a, rfl⟩ := Int.eq_ofNat_of_zero_le hb.1
    have HF : Hid (runF labelB l a = tailF l (a + n) (a + n) - a) := Lib.hid (runF_go hp (by rw [hf]; rintro (h | h); exact hn h; cases h))
    have hb2 : a + n ≤ l.length := by omega
    have hge := tailF_ge l _ (a + n) (a + n) (Nat.le_refl _) (Nat.le_refl _)
    have HG := Lib.hid hge
    clear hp hb hge
    go_enter Tryd.func39, Tryd.ntmps39
    go_wp2_with (first | (go_at_call 49; refine N1.out.mono ?_; rintro e w1 ⟨rfl, rfl⟩; unfold pairV) | (go_at_call 40; refine (FST.out v).mono ?_; rintro e w1 ⟨rfl, rfl⟩))
    go_loop [7, 8, 9, 10] (fun _ _ e i => ∃ en j : Nat, e = .int .i64 en ∧ i = .int .i64 j ∧ en ≤ j ∧ j ≤ l.length ∧ Hid (tailF l (a + n) (a + n) = tailF l j en)) (fun _ _ _ i => l.length - (intOf i).toNat)
    case atStart => exact ⟨a + n, a + n, by go_num, by go_num, Nat.le_refl _, hb2, rfl⟩
    case round =>
      obtain ⟨en, j, rfl, rfl, hej, hjl, HT⟩ := hrel
      obtain ⟨x, m, hq⟩ : ∃ x m, nextAt l (j : Int) = (x, m) := ⟨_, _, rfl⟩
      have N2 := Lib.hid (NEXT.out j (by omega) x m hq)
      by_cases hm : m = 0
      · have HE : Hid (runF labelB l a = en - a) := Lib.hid (by rw [HF.out, HT.out, tailF_stop hq (.inl hm)])
        have m0 : ((m : Int) == 0) = true := by rw [hm]; rfl
        have hen : a ≤ en := by have h1 := HG.out; rw [HT.out, tailF_stop hq (.inl hm)] at h1; omega
        clear hq hm HT
        go_wp2_with (go_at_call 49; refine N2.out.mono ?_; rintro e w1 ⟨rfl, rfl⟩; unfold pairV)
        go_ret
        exact ⟨ret_i64 (by rw [HE.out]; omega), rfl⟩
      have m0 : ((m : Int) == 0) = false := beq_eq_false_iff_ne.2 (by omega)
      have hmb := nextAt_bound hq hm
      have hjm : j + m ≤ l.length := by omega
      by_cases hx : x = 46
      · have x0 : (x != 46) = false := by rw [hx]; rfl
        have HT2 : Hid (tailF l (a + n) (a + n) = tailF l (j + m) en) := Lib.hid (by rw [HT.out, tailF_go hq (by rintro (h | h); exact hm h; exact h.1 hx), if_pos hx])
        clear hq hmb hx HT
        go_wp2_with (go_at_call 49; refine N2.out.mono ?_; rintro e w1 ⟨rfl, rfl⟩; unfold pairV)
        go_round
        case rel => exact ⟨en, j + m, rfl, by go_num, by omega, hjm, HT2⟩
        case measure => simp [intOf]; omega
      · have x0 : (x != 46) = true := by rw [bne_iff_ne]; exact hx
        cases hfo : followB x with
        | false =>
          have HE : Hid (runF labelB l a = en - a) := Lib.hid (by rw [HF.out, HT.out, tailF_stop hq (.inr ⟨hx, hfo⟩)])
          have hen : a ≤ en := by have h1 := HG.out; rw [HT.out, tailF_stop hq (.inr ⟨hx, hfo⟩)] at h1; omega
          clear hq hmb hx HT hm
          go_wp2_with (first | (go_at_call 49; refine N2.out.mono ?_; rintro e w1 ⟨rfl, rfl⟩; unfold pairV) | (go_at_call 85; refine (FOL.out x).mono ?_; rintro e w1 ⟨rfl, rfl⟩))
          go_ret
          exact ⟨ret_i64 (by rw [HE.out]; omega), rfl⟩
        | true =>
          have HT2 : Hid (tailF l (a + n) (a + n) = tailF l (j + m) (j + m)) := Lib.hid (by rw [HT.out, tailF_go hq (by rw [hfo]; rintro (h | h); exact hm h; cases h.2), if_neg hx])
          clear hq hmb hx HT
          go_wp2_with (first | (go_at_call 49; refine N2.out.mono ?_; rintro e w1 ⟨rfl, rfl⟩; unfold pairV) | (go_at_call 85; refine (FOL.out x).mono ?_; rintro e w1 ⟨rfl, rfl⟩))
          go_round
          case rel => exact ⟨j + m, j + m, by go_num, by go_num, Nat.le_refl _, hjm, HT2⟩
          case measure => simp [intOf]; omega

set_option maxHeartbeats 1600000 in
theorem run_base (l : List UInt8) (i : Int) (w : World) (hl : l.length ≤ 4611686018427387904) (hi : -9223372036854775808 ≤ i ∧ i ≤ 9223372036854775807) (hT : TabAt w) :
    Calls Tryd.prog 39 #[.string (B l), .int .i64 i, .func (Fn.func 47) #[] #[]] w fun e w' => e = .returned (.int .i64 (runF baseB l i : Nat)) ∧ w' = w := by
  have NEXT := Lib.hid (fun (j : Int) (hj : -9223372036854775808 ≤ j ∧ j ≤ 9223372036854775807) (v : Int) (n : Nat) (h : nextAt l j = (v, n)) => h ▸ next_l l j w hl hj)
  have FOL := Lib.hid (fun r => follow_any r w hT)
  have FST := Lib.hid (fun r => base_any r w hT)
  clear hT
  obtain ⟨v, n, hp⟩ : ∃ v n, nextAt l i = (v, n) := ⟨_, _, rfl⟩
  have N1 := Lib.hid (NEXT.out i hi v n hp)
  by_cases hn : n = 0
  · have HF : Hid (runF baseB l i = 0) := Lib.hid (runF_no hp (.inl hn))
    have e0 : ((n : Int) == 0) = true := by rw [hn]; rfl
    clear hp hn
    go_enter Tryd.func39, Tryd.ntmps39
    go_wp2_with (go_at_call 49; refine N1.out.mono ?_; rintro e w1 ⟨rfl, rfl⟩; unfold pairV)
    go_ret
    exact ⟨by rw [HF.out]; rfl, rfl⟩
  have e0 : ((n : Int) == 0) = false := beq_eq_false_iff_ne.2 (by omega)
  have hb := nextAt_bound hp hn
  cases hf : baseB v with
  | false =>
    have HF : Hid (runF baseB l i = 0) := Lib.hid (runF_no hp (.inr hf))
    clear hp hn hb
    go_enter Tryd.func39, Tryd.ntmps39
    go_wp2_with (first | (go_at_call 49; refine N1.out.mono ?_; rintro e w1 ⟨rfl, rfl⟩; unfold pairV) | (go_at_call 47; refine (FST.out v).mono ?_; rintro e w1 ⟨rfl, rfl⟩))
    go_ret
    exact ⟨by rw [HF.out]; rfl, rfl⟩
  | true =>
    obtain ⟨a, rfl⟩ := Int.eq_ofNat_of_zero_le hb.1
    have HF : Hid (runF baseB l a = tailF l (a + n) (a + n) - a) := Lib.hid (runF_go hp (by rw [hf]; rintro (h | h); exact hn h; cases h))
    have hb2 : a + n ≤ l.length := by omega
    have hge := tailF_ge l _ (a + n) (a + n) (Nat.le_refl _) (Nat.le_refl _)
    have HG := Lib.hid hge
    clear hp hb hge
    go_enter Tryd.func39, Tryd.ntmps39
    go_wp2_with (first | (go_at_call 49; refine N1.out.mono ?_; rintro e w1 ⟨rfl, rfl⟩; unfold pairV) | (go_at_call 47; refine (FST.out v).mono ?_; rintro e w1 ⟨rfl, rfl⟩))
    go_loop [7, 8, 9, 10] (fun _ _ e i => ∃ en j : Nat, e = .int .i64 en ∧ i = .int .i64 j ∧ en ≤ j ∧ j ≤ l.length ∧ Hid (tailF l (a + n) (a + n) = tailF l j en)) (fun _ _ _ i => l.length - (intOf i).toNat)
    case atStart => exact ⟨a + n, a + n, by go_num, by go_num, Nat.le_refl _, hb2, rfl⟩
    case round =>
      obtain ⟨en, j, rfl, rfl, hej, hjl, HT⟩ := hrel
      obtain ⟨x, m, hq⟩ : ∃ x m, nextAt l (j : Int) = (x, m) := ⟨_, _, rfl⟩
      have N2 := Lib.hid (NEXT.out j (by omega) x m hq)
      by_cases hm : m = 0
      · have HE : Hid (runF baseB l a = en - a) := Lib.hid (by rw [HF.out, HT.out, tailF_stop hq (.inl hm)])
        have m0 : ((m : Int) == 0) = true := by rw [hm]; rfl
        have hen : a ≤ en := by have h1 := HG.out; rw [HT.out, tailF_stop hq (.inl hm)] at h1; omega
        clear hq hm HT
        go_wp2_with (go_at_call 49; refine N2.out.mono ?_; rintro e w1 ⟨rfl, rfl⟩; unfold pairV)
        go_ret
        exact ⟨ret_i64 (by rw [HE.out]; omega), rfl⟩
      have m0 : ((m : Int) == 0) = false := beq_eq_false_iff_ne.2 (by omega)
      have hmb := nextAt_bound hq hm
      have hjm : j + m ≤ l.length := by omega
      by_cases hx : x = 46
      · have x0 : (x != 46) = false := by rw [hx]; rfl
        have HT2 : Hid (tailF l (a + n) (a + n) = tailF l (j + m) en) := Lib.hid (by rw [HT.out, tailF_go hq (by rintro (h | h); exact hm h; exact h.1 hx), if_pos hx])
        clear hq hmb hx HT
        go_wp2_with (go_at_call 49; refine N2.out.mono ?_; rintro e w1 ⟨rfl, rfl⟩; unfold pairV)
        go_round
        case rel => exact ⟨en, j + m, rfl, by go_num, by omega, hjm, HT2⟩
        case measure => simp [intOf]; omega
      · have x0 : (x != 46) = true := by rw [bne_iff_ne]; exact hx
        cases hfo : followB x with
        | false =>
          have HE : Hid (runF baseB l a = en - a) := Lib.hid (by rw [HF.out, HT.out, tailF_stop hq (.inr ⟨hx, hfo⟩)])
          have hen : a ≤ en := by have h1 := HG.out; rw [HT.out, tailF_stop hq (.inr ⟨hx, hfo⟩)] at h1; omega
          clear hq hmb hx HT hm
          go_wp2_with (first | (go_at_call 49; refine N2.out.mono ?_; rintro e w1 ⟨rfl, rfl⟩; unfold pairV) | (go_at_call 85; refine (FOL.out x).mono ?_; rintro e w1 ⟨rfl, rfl⟩))
          go_ret
          exact ⟨ret_i64 (by rw [HE.out]; omega), rfl⟩
        | true =>
          have HT2 : Hid (tailF l (a + n) (a + n) = tailF l (j + m) (j + m)) := Lib.hid (by rw [HT.out, tailF_go hq (by rw [hfo]; rintro (h | h); exact hm h; cases h.2), if_neg hx])
          clear hq hmb hx HT
          go_wp2_with (first | (go_at_call 49; refine N2.out.mono ?_; rintro e w1 ⟨rfl, rfl⟩; unfold pairV) | (go_at_call 85; refine (FOL.out x).mono ?_; rintro e w1 ⟨rfl, rfl⟩))
          go_round
          case rel => exact ⟨j + m, j + m, by go_num, by go_num, Nat.le_refl _, hjm, HT2⟩
          case measure => simp [intOf]; omega

theorem labelAt_l (l : List UInt8) (i : Int) (w : World) (hl : l.length ≤ 4611686018427387904) (hi : -9223372036854775808 ≤ i ∧ i ≤ 9223372036854775807) (hT : TabAt w) :
    Calls Tryd.prog 13 #[.string (B l), .int .i64 i] w fun e w' => e = .returned (.int .i64 (runF labelB l i : Nat)) ∧ w' = w := by
  have R := Lib.hid (run_labels l i w hl hi hT)
  clear hT
  go_enter Tryd.func13, Tryd.ntmps13
  go_wp2_with (go_at_call 39; refine R.out.mono ?_; rintro e w1 ⟨rfl, rfl⟩)
  go_ret
  exact ⟨rfl, rfl⟩
end Go.Proofs.YtfjcbodkjjmagaaDoor
