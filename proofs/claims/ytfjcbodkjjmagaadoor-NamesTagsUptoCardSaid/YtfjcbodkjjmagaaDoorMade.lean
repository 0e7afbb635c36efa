/-
  names.made: contract. By an AI agent.
-/
import Derived.Test.YtfjcbodkjjmagaaDoorTag0
import Derived.Test.YtfjcbodkjjmagaaDoorChars
import Derived.Laws.RangeAny
namespace Go.Proofs.YtfjcbodkjjmagaaDoor
open Go.RowKit
set_option maxRecDepth 100000

theorem next_ascii {P : Program} (w : World) (l : List UInt8) (j : Nat) (ty : TypeId) (h : j < l.length) (ha : l[j].toNat < 128) :
    (Instr.next (.pointer (some ⟨w.heap.size, 0, none⟩)) true ty).run P (w.iter (B l) j) = .ok (.tuple #[.bool true, .int .i64 (j : Int), .int .i32 (l[j].toNat : Int)]) (w.iter (B l) (j + 1)) := by
  have h' : j < (B l).size := by rw [B_size]; exact h
  have e : (B l)[j] = l[j] := B_get l j h'
  have := run_next_ascii (P := P) w (B l) j ty h' (by rw [e]; exact ha)
  rw [e] at this
  exact this
theorem next_high {P : Program} (w : World) (l : List UInt8) (j : Nat) (ty : TypeId) (h : j < l.length) (ha : ¬ l[j].toNat < 128) :
    ∃ r n : Nat, 128 ≤ r ∧ (Instr.next (.pointer (some ⟨w.heap.size, 0, none⟩)) true ty).run P (w.iter (B l) j) = .ok (.tuple #[.bool true, .int .i64 (j : Int), .int .i32 (r : Int)]) (w.iter (B l) n) := by
  have h' : j < (B l).size := by rw [B_size]; exact h
  have e : (B l)[j] = l[j] := B_get l j h'
  have hd := decode_high (B l) j h' (by rw [e]; omega)
  exact ⟨_, _, hd.1, run_next_any (P := P) w (B l) j ty h'⟩
theorem next_end {P : Program} (w : World) (l : List UInt8) (ty : TypeId) :
    (Instr.next (.pointer (some ⟨w.heap.size, 0, none⟩)) true ty).run P (w.iter (B l) l.length) = .ok (.tuple #[.bool false]) (w.iter (B l) l.length) :=
  run_next_end (P := P) w (B l) l.length ty (by rw [B_size]; omega)

theorem letterB_hi {r : Nat} (h : 128 ≤ r) : letterB (r : Int) = false := by unfold letterB; simp; omega
theorem digitB_hi {r : Nat} (h : 128 ≤ r) : digitB (r : Int) = false := by unfold digitB; simp; omega
theorem letterB_byte (c : UInt8) : letterB (c.toNat : Int) = alphaC c := by
  rw [Bool.eq_iff_iff]; unfold letterB alphaC; simp; omega
theorem digitB_byte (c : UInt8) : digitB (c.toNat : Int) = digC c := by
  rw [Bool.eq_iff_iff]; unfold digitB digC; simp; omega
/-- from a place on: all such ones? -/
def okFrom (p : List UInt8) (pure : Bool) (j : Nat) : Bool := (p.drop j).all fun c => alphaC c || (!pure && digC c)
theorem okFrom_end (p : List UInt8) (pure : Bool) : okFrom p pure p.length = true := by unfold okFrom; simp
theorem okFrom_step {p : List UInt8} {pure : Bool} {j : Nat} (h : j < p.length) : okFrom p pure j = ((alphaC p[j] || (!pure && digC p[j])) && okFrom p pure (j + 1)) := by
  unfold okFrom
  rw [List.drop_eq_getElem_cons h, List.all_cons]
theorem low_of_ok {c : UInt8} {pure : Bool} (h : (alphaC c || (!pure && digC c)) = true) : c.toNat < 128 := by
  unfold alphaC digC at h
  simp at h
  omega

set_option maxHeartbeats 1600000 in
theorem made_l (p : List UInt8) (lo hi : Nat) (pure : Bool) (w : World) (hp : p.length ≤ 140737488351232) (h1 : lo ≤ 1000) (h2 : hi ≤ 1000) :
    Calls Tryd.prog 105 #[.string (B p), .int .i64 (lo : Int), .int .i64 (hi : Int), .bool pure] w fun e w' => e = .returned (.bool (madeB p lo hi pure)) ∧ Below w.heap.size w w' := by
  have LET := Lib.hid letter_any
  have DIG := Lib.hid digit_any
  go_enter Tryd.func105, Tryd.ntmps105
  go_wp2_with fail
  go_loopw [10] (fun _ wr => ∃ j : Nat, j ≤ p.length ∧ wr = w.iter (B p) j ∧ Hid (madeB p lo hi pure = (okFrom p pure j && (decide (lo ≤ p.length) && decide (p.length ≤ hi))))) (fun _ wr => p.length - wr.iterPos w.heap.size)
  case atStart => exact ⟨0, Nat.zero_le _, rfl, Lib.hid (by unfold madeB okFrom; simp)⟩
  case round =>
    obtain ⟨j, hj, rfl, HM⟩ := hrel
    by_cases hlt : j < p.length
    · by_cases ha : p[j].toNat < 128
      · have hnx := fun ty => next_ascii (P := Tryd.prog) w p j ty hlt ha
        obtain ⟨c, hc⟩ : ∃ c, p[j] = c := ⟨_, rfl⟩
        have hst := okFrom_step (pure := pure) hlt
        rw [hc] at hnx hst
        cases ha1 : alphaC c with
        | true =>
          have hl1 : letterB (c.toNat : Int) = true := by rw [letterB_byte]; exact ha1
          have HE : Hid (madeB p lo hi pure = (okFrom p pure (j + 1) && (decide (lo ≤ p.length) && decide (p.length ≤ hi)))) := Lib.hid (by rw [HM.out, hst, ha1, Bool.true_or, Bool.true_and])
          clear HM hst ha hc ha1
          go_wp2_with (first | (go_at_call 89; (with_reducible refine (LET.out _ _).mono ?_); rintro e w1 ⟨rfl, rfl⟩) | (go_at_call 87; (with_reducible refine (DIG.out _ _).mono ?_); rintro e w2 ⟨rfl, rfl⟩) | fail)
          go_roundw
          case rel => exact ⟨j + 1, hlt, rfl, HE⟩
          case measure => simp; omega
        | false =>
          have hl1 : letterB (c.toNat : Int) = false := by rw [letterB_byte]; exact ha1
          cases hpu : pure with
          | true =>
            have HE : Hid (madeB p lo hi pure = false) := Lib.hid (by rw [HM.out, hst, ha1, hpu]; rfl)
            subst hpu
            clear HM hst ha hc ha1
            go_wp2_with (first | (go_at_call 89; (with_reducible refine (LET.out _ _).mono ?_); rintro e w1 ⟨rfl, rfl⟩) | (go_at_call 87; (with_reducible refine (DIG.out _ _).mono ?_); rintro e w2 ⟨rfl, rfl⟩) | fail)
            go_ret
            exact ⟨ret_bool HE.out.symm, (Below.refl _ _).alloc (Nat.le_refl _) _⟩
          | false =>
            subst hpu
            cases hd1 : digC c with
            | true =>
              have hl2 : digitB (c.toNat : Int) = true := by rw [digitB_byte]; exact hd1
              have HE : Hid (madeB p lo hi false = (okFrom p false (j + 1) && (decide (lo ≤ p.length) && decide (p.length ≤ hi)))) := Lib.hid (by rw [HM.out, hst, ha1, hd1]; rfl)
              clear HM hst ha hc ha1 hd1
              go_wp2_with (first | (go_at_call 89; (with_reducible refine (LET.out _ _).mono ?_); rintro e w1 ⟨rfl, rfl⟩) | (go_at_call 87; (with_reducible refine (DIG.out _ _).mono ?_); rintro e w2 ⟨rfl, rfl⟩) | fail)
              go_roundw
              case rel => exact ⟨j + 1, hlt, rfl, HE⟩
              case measure => simp; omega
            | false =>
              have hl2 : digitB (c.toNat : Int) = false := by rw [digitB_byte]; exact hd1
              have HE : Hid (madeB p lo hi false = false) := Lib.hid (by rw [HM.out, hst, ha1, hd1]; rfl)
              clear HM hst ha hc ha1 hd1
              go_wp2_with (first | (go_at_call 89; (with_reducible refine (LET.out _ _).mono ?_); rintro e w1 ⟨rfl, rfl⟩) | (go_at_call 87; (with_reducible refine (DIG.out _ _).mono ?_); rintro e w2 ⟨rfl, rfl⟩) | fail)
              go_ret
              exact ⟨ret_bool HE.out.symm, (Below.refl _ _).alloc (Nat.le_refl _) _⟩
      · have hok : (alphaC p[j] || (!pure && digC p[j])) = false := by
          cases h : (alphaC p[j] || (!pure && digC p[j])) with
          | false => rfl
          | true => exact absurd (low_of_ok h) ha
        have HE : Hid (madeB p lo hi pure = false) := Lib.hid (by rw [HM.out, okFrom_step hlt, hok]; rfl)
        obtain ⟨r, hr0, n, hr, hnx⟩ : ∃ r : Nat, True ∧ ∃ n : Nat, 128 ≤ r ∧ ∀ ty, (Instr.next (.pointer (some ⟨w.heap.size, 0, none⟩)) true ty).run Tryd.prog (w.iter (B p) j) = .ok (.tuple #[.bool true, .int .i64 (j : Int), .int .i32 (r : Int)]) (w.iter (B p) n) := by
          obtain ⟨r, n, h1, h2⟩ := next_high (P := Tryd.prog) w p j 0 hlt ha
          exact ⟨r, trivial, n, h1, fun ty => h2⟩
        have hl1 := letterB_hi hr
        have hl2 := digitB_hi hr
        clear HM hok ha hr hr0
        cases pure <;> (
          go_wp2_with (first | (go_at_call 89; (with_reducible refine (LET.out _ _).mono ?_); rintro e w1 ⟨rfl, rfl⟩) | (go_at_call 87; (with_reducible refine (DIG.out _ _).mono ?_); rintro e w2 ⟨rfl, rfl⟩) | fail)
          go_ret
          exact ⟨ret_bool HE.out.symm, (Below.refl _ _).alloc (Nat.le_refl _) _⟩)
    · obtain rfl : j = p.length := by omega
      have hnx := fun ty => next_end (P := Tryd.prog) w p ty
      rw [okFrom_end, Bool.true_and] at HM
      by_cases hlo : lo ≤ p.length
      · rw [decide_eq_true hlo, Bool.true_and] at HM
        go_wp2_with fail
        go_ret
        exact ⟨ret_bool (by rw [HM.out] <;> simp), (Below.refl _ _).alloc (Nat.le_refl _) _⟩
      · rw [decide_eq_false hlo, Bool.false_and] at HM
        go_wp2_with fail
        go_ret
        exact ⟨ret_bool (by rw [HM.out] <;> rfl), (Below.refl _ _).alloc (Nat.le_refl _) _⟩
end Go.Proofs.YtfjcbodkjjmagaaDoor
