/-
  The reference's Next: contract: it reads what the program's reads. By an AI agent.
-/
import Derived.Test.YtfjcbodkjjmagaaDoorRefUtf
import Derived.WalkSpells
namespace Go.Proofs.YtfjcbodkjjmagaaDoor
open Go.RowKit
set_option maxRecDepth 100000

def pairI (r : Int × Nat) : Value := .tuple #[.int .i64 r.1, .int .i64 (r.2 : Int)]
theorem pairI_mk {r : Int × Nat} {v : Int} {n : Nat} (h : r = (v, n)) : Ending.returned (.tuple #[.int .i64 v, .int .i64 (n : Int)]) = .returned (pairI r) := by rw [h]; rfl
theorem pairI_0 {r : Int × Nat} (h : r = (0, 0)) : Ending.returned (.tuple #[.int .i64 0, .int .i64 0]) = .returned (pairI r) := by rw [h]; rfl
theorem At.drew {w : World} {a : Option Addr} {xs : List Value} (h : At w a xs) : At w.drew a xs := h
theorem nextFrom_in {r : List UInt8} {k : Nat} (hk : k ≤ 4) (h : k ≤ r.length) : nextFrom r (5 - k) k = if 0 ≤ guessV (r.take k) then (guessV (r.take k), k) else nextFrom r (5 - (k + 1)) (k + 1) := by
  rw [show 5 - k = (5 - (k + 1)) + 1 by omega, nextFrom, if_pos h]
theorem nextFrom_out {r : List UInt8} {k : Nat} (h : 4 < k ∨ r.length < k) (hk : k ≤ 5) : nextFrom r (5 - k) k = (0, 0) := by
  by_cases h5 : k = 5
  · subst h5; rfl
  · rw [show 5 - k = (5 - (k + 1)) + 1 by omega, nextFrom, if_neg (by omega)]

set_option maxHeartbeats 1600000 in
theorem refNext_l (l : List UInt8) (i : Int) (w : World) (hl : l.length ≤ 4611686018427387904) (hi : -9223372036854775808 ≤ i ∧ i ≤ 9223372036854775807) :
    Calls Tryd.prog 41 #[.string (B l), .int .i64 i] w fun e w' => e = .returned (pairI (nextAt l i)) ∧ Below w.heap.size w w' := by
  have GUE := Lib.hid guess_l
  by_cases h0 : i < 0
  · have HF := Lib.hid (nextAt_out (l := l) (.inl h0))
    go_enter Tryd.func41, Tryd.ntmps41
    go_wp2_with fail
    go_ret2
    exact ⟨pairI_0 HF.out, Below.refl _ _⟩
  obtain ⟨n, rfl⟩ := Int.eq_ofNat_of_zero_le (Int.not_lt.1 h0)
  by_cases h1 : l.length ≤ n
  · have HF := Lib.hid (nextAt_out (l := l) (i := (n : Int)) (.inr (by omega)))
    go_enter Tryd.func41, Tryd.ntmps41
    go_wp2_with fail
    go_ret2
    exact ⟨pairI_0 HF.out, Below.refl _ _⟩
  have hn : n < l.length := by omega
  have HF : Hid (nextAt l n = nextFrom (l.drop n) 4 1) := Lib.hid (by unfold nextAt; rw [if_neg (by omega), Int.toNat_natCast, ← next_eq]; rfl)
  have hd0 : decide ((n : Int) < 0) = false := by simp
  have hd1 : decide (l.length ≤ n) = false := by simp; omega
  clear h0 h1
  go_enter Tryd.func41, Tryd.ntmps41
  go_wp2_with fail
  go_loopw [6] (fun i wr => ∃ k : Nat, 1 ≤ k ∧ k ≤ 5 ∧ i = .int .i64 k ∧ Hid (nextAt l n = nextFrom (l.drop n) (5 - k) k) ∧ Below w.heap.size w wr) (fun i _ => 5 - (intOf i).toNat)
  case atStart => exact ⟨1, Nat.le_refl _, by omega, rfl, HF, Below.refl _ _⟩
  case round =>
    obtain ⟨k, hk1, hk5, rfl, HK, hb⟩ := hrel
    by_cases hin : k ≤ 4 ∧ k ≤ l.length - n
    · obtain ⟨hk4, hkl⟩ := hin
      have hstep := nextFrom_in (r := l.drop n) hk4 (by simp; omega)
      obtain ⟨m, hm⟩ : ∃ m, (l.drop n).take k = m := ⟨_, rfl⟩
      have hml : m.length = k := by rw [← hm]; simp; omega
      rw [hm] at hstep
      have hki : (k : Int) ≤ (l.length : Int) - (n : Int) := by omega
      have hsub : n + k - n = k := by omega
      have hnk : n + k ≤ l.length := by omega
      have hconv := run_bytes_of_string (P := Tryd.prog) wr 9 68 5 (B m) Tryd.underlying9 Tryd.underlying68 Tryd.underlying5
      obtain ⟨cap, hcap⟩ : ∃ cap, grownCap wr (B m).size 0 5 = cap := ⟨_, rfl⟩
      rw [hcap, B_size, hml] at hconv
      have hrow := rowAt_bytes wr (B m) cap 5
      obtain ⟨C, hC⟩ : ∃ C, bytesRow (B m) cap = C := ⟨_, rfl⟩
      rw [hC] at hconv hrow
      rw [B_toList] at hrow
      have HG := Lib.hid (fun (wx : World) (h : At wx (some ⟨wr.heap.size, 0, none⟩) (m.map U8)) => GUE.out m (some ⟨wr.heap.size, 0, none⟩) cap wx (by omega) (by omega) h)
      rw [hml] at HG
      have HRW := Lib.hid hrow.at
      have HS := Lib.hid (HK.out.trans hstep)
      clear hcap hC hrow hstep HK hml
      obtain ⟨q, hq⟩ : ∃ q, guessV m = q := ⟨_, rfl⟩
      have HQ := Lib.hid hq
      have HG2 := Lib.hid (fun (wx : World) (h : At wx (some ⟨wr.heap.size, 0, none⟩) (m.map U8)) => hq ▸ HG.out wx h)
      clear hq HG
      by_cases hq0 : 0 ≤ q
      · have HE : Hid (nextAt l n = (q, k)) := Lib.hid (by rw [HS.out, HQ.out, if_pos hq0])
        go_wp2_with (go_at_call 88; refine (HG2.out _ HRW.out.drew).mono ?_; rintro e w1 ⟨rfl, hb1⟩)
        go_ret2
        exact ⟨pairI_mk HE.out, ((hb.alloc hb.size _).drew).trans (hb1.mono (by have := hb.size; simp; omega))⟩
      · have hk5' : k + 1 ≤ 5 := by omega
        have HE : Hid (nextAt l n = nextFrom (l.drop n) (5 - (k + 1)) (k + 1)) := Lib.hid (by rw [HS.out, HQ.out, if_neg hq0])
        go_wp2_with (go_at_call 88; refine (HG2.out _ HRW.out.drew).mono ?_; rintro e w1 ⟨rfl, hb1⟩)
        go_roundw
        case rel => exact ⟨k + 1, by omega, hk5', by go_num, HE, ((hb.alloc hb.size _).drew).trans (hb1.mono (by have := hb.size; simp; omega))⟩
        case measure => simp [intOf]; omega
    · have HE : Hid (nextAt l n = (0, 0)) := Lib.hid (by rw [HK.out, nextFrom_out (by simp; omega) hk5])
      clear HK
      by_cases hk4 : k ≤ 4
      · have hkl : ¬ (k : Int) ≤ (l.length : Int) - (n : Int) := by omega
        go_wp2_with fail
        go_ret2
        exact ⟨pairI_0 HE.out, hb⟩
      · go_wp2_with fail
        go_ret2
        exact ⟨pairI_0 HE.out, hb⟩
end Go.Proofs.YtfjcbodkjjmagaaDoor
