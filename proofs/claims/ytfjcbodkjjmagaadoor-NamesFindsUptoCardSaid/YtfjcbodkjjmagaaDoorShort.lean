/-
  names.shorter: contract. By an AI agent.
-/
import Derived.Test.YtfjcbodkjjmagaaDoorLook
import Derived.Test.YtfjcbodkjjmagaaDoorShelf
import Derived.Outline
namespace Go.Proofs.YtfjcbodkjjmagaaDoor
open Go.RowKit
set_option maxRecDepth 100000

def strLen : Value → Nat | .string s => s.size | _ => 0
/-- a text, parted at its last hyphen -/
theorem last_l (l : List UInt8) : (Lib.lastIndexByte (B l) 45 = -1 ∧ ∀ c ∈ l, c ≠ 45) ∨
    ∃ i : Nat, i < l.length ∧ Lib.lastIndexByte (B l) 45 = i ∧ l = l.take i ++ 45 :: l.drop (i + 1) ∧ ∀ c ∈ l.drop (i + 1), c ≠ 45 := by
  have h := last_hyphen (B l)
  rw [B_toList, B_size] at h
  exact h

set_option maxHeartbeats 800000 in
theorem shorter_l (l : List UInt8) (w : World) (hs : l.length ≤ 16777216) :
    Calls Tryd.prog 84 #[.string (B l)] w fun e w' => e = .returned (.string (B (shorterL l))) ∧ w' = w := by
  have L := fun (m : List UInt8) (hm : m.length ≤ 16777216) (w : World) => Tryd.strings_LastIndexByte (B m) 45 (by rw [B_size]; omega) w
  have HL := Lib.hid L
  clear L
  rcases last_l l with ⟨h1, h2⟩ | ⟨i, hi, h1, h2, h3⟩
  · have hfin : shorterL l = [] := shorterL_plain l h2
    have HF := Lib.hid hfin
    have H1 := Lib.hid h1
    clear hfin h1 h2
    go_enter Tryd.func84, Tryd.ntmps84
    go_wp2_with (go_at_call 117; refine (HL.out _ (by omega) _).mono ?_; rintro e w1 ⟨rfl, rfl⟩; rw [H1.out])
    go_ret
    exact ⟨by rw [HF.out]; rfl, rfl⟩
  · have hfin : trimL (l.take i) = shorterL l := by rw [congrArg shorterL h2, shorterL_cut _ _ h3]
    have HF := Lib.hid hfin
    have H1 := Lib.hid h1
    have hlt : (l.take i).length ≤ l.length := by simp; omega
    clear hfin h1 h2 h3
    go_enter Tryd.func84, Tryd.ntmps84
    go_wp2_with (go_at_call 117; refine (HL.out _ (by omega) _).mono ?_; rintro e w1 ⟨rfl, rfl⟩; rw [H1.out])
    go_loop [0] (fun v => ∃ m : List UInt8, v = .string (B m) ∧ m.length ≤ l.length ∧ Hid (trimL m = shorterL l)) (fun v => strLen v)
    case atStart => exact ⟨l.take i, rfl, hlt, HF⟩
    case round =>
      obtain ⟨m, rfl, hm, hq⟩ := hrel
      rcases last_l m with ⟨h1, h2⟩ | ⟨j, hj, h1, h2, h3⟩
      · have HR := Lib.hid (hq.out.symm.trans (trimL_plain m h2))
        have H1 := Lib.hid h1
        clear h1 h2 hq
        go_wp2_with (go_at_call 117; refine (HL.out _ (by omega) _).mono ?_; rintro e w1 ⟨rfl, rfl⟩; rw [H1.out])
        go_ret
        exact ⟨ret_str HR.out.symm, rfl⟩
      · have H1 := Lib.hid h1
        by_cases hb : (m.drop (j + 1)).length = 1
        · have HR := Lib.hid ((trimL_cut _ _ h3 hb).symm.trans ((congrArg trimL h2).symm.trans hq.out))
          have hx : ((m.length : Int) - (j : Int) - 1 != 1) = false := by rw [List.length_drop] at hb; simp; omega
          clear h1 h2 h3 hq hb
          go_wp2_with (go_at_call 117; refine (HL.out _ (by omega) _).mono ?_; rintro e w1 ⟨rfl, rfl⟩; rw [H1.out])
          go_round
          case rel => exact ⟨m.take j, rfl, by rw [List.length_take]; omega, HR⟩
          case measure => simp [strLen, B_size]; omega
        · have HR := Lib.hid ((h2.trans (trimL_stay _ _ h3 hb).symm).trans ((congrArg trimL h2).symm.trans hq.out)).symm
          have hx : ((m.length : Int) - (j : Int) - 1 != 1) = true := by rw [List.length_drop] at hb; simp; omega
          clear h1 h2 h3 hq hb
          go_wp2_with (go_at_call 117; refine (HL.out _ (by omega) _).mono ?_; rintro e w1 ⟨rfl, rfl⟩; rw [H1.out])
          go_ret
          exact ⟨ret_str HR.out.symm, rfl⟩
end Go.Proofs.YtfjcbodkjjmagaaDoor
