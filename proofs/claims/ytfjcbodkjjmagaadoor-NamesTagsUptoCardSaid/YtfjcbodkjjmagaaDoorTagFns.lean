/-
  The small tests of names' tag reader: contracts. By an AI agent.
-/
import Derived.Test.YtfjcbodkjjmagaaDoorMade
namespace Go.Proofs.YtfjcbodkjjmagaaDoor
open Go.RowKit
set_option maxRecDepth 100000

theorem wrap32_byte (b : UInt8) : IntKind.i32.wrap (b.toNat : Int) = (b.toNat : Int) := by
  have := b.toNat_lt
  simp [IntKind.wrap, IntKind.bits, IntKind.signed]
  omega
theorem private_l (p : List UInt8) (w : World) : Calls Tryd.prog 66 #[.string (B p)] w fun e w' => e = .returned (.bool (privB p)) ∧ w' = w := by
  cases h1 : (p == [120]) with
  | true =>
    have HE : Hid (privB p = true) := Lib.hid (by unfold privB; rw [h1]; rfl)
    go_enter Tryd.func66, Tryd.ntmps66
    go_wp2_with fail
    go_ret
    exact ⟨ret_bool HE.out.symm, rfl⟩
  | false =>
    have HE : Hid (privB p = (p == [88])) := Lib.hid (by unfold privB; rw [h1]; rfl)
    go_enter Tryd.func66, Tryd.ntmps66
    go_wp2_with fail
    go_ret
    exact ⟨ret_bool HE.out.symm, rfl⟩

theorem lang1_l (p : List UInt8) (w : World) (hp : p.length ≤ 140737488351232) : Calls Tryd.prog 104 #[.string (B p)] w fun e w' => e = .returned (.bool (madeB p 2 8 true)) ∧ Below w.heap.size w w' := by
  have MA := Lib.hid (fun w => made_l p 2 8 true w hp (by omega) (by omega))
  go_enter Tryd.func104, Tryd.ntmps104
  go_wp2_with (go_at_call 105; refine (MA.out _).mono ?_; rintro e w1 ⟨rfl, hb1⟩)
  go_ret
  exact ⟨rfl, hb1⟩

theorem lang2_l (p : List UInt8) (w : World) (hp : p.length ≤ 140737488351232) : Calls Tryd.prog 106 #[.string (B p)] w fun e w' => e = .returned (.bool (madeB p 3 3 true)) ∧ Below w.heap.size w w' := by
  have MA := Lib.hid (fun w => made_l p 3 3 true w hp (by omega) (by omega))
  go_enter Tryd.func106, Tryd.ntmps106
  go_wp2_with (go_at_call 105; refine (MA.out _).mono ?_; rintro e w1 ⟨rfl, hb1⟩)
  go_ret
  exact ⟨rfl, hb1⟩

theorem rest1_l (p : List UInt8) (w : World) (hp : p.length ≤ 140737488351232) : Calls Tryd.prog 107 #[.string (B p)] w fun e w' => e = .returned (.bool (madeB p 4 4 true)) ∧ Below w.heap.size w w' := by
  have MA := Lib.hid (fun w => made_l p 4 4 true w hp (by omega) (by omega))
  go_enter Tryd.func107, Tryd.ntmps107
  go_wp2_with (go_at_call 105; refine (MA.out _).mono ?_; rintro e w1 ⟨rfl, hb1⟩)
  go_ret
  exact ⟨rfl, hb1⟩

theorem tail1_l (p : List UInt8) (lo b : Nat) (w : World) (hp : p.length ≤ 140737488351232) (hlo : lo ≤ 1000) (hc : w.cell? ⟨b, 0, none⟩ = some (.int .i64 (lo : Int))) : Calls Tryd.prog 112 #[.string (B p), .pointer (some ⟨b, 0, none⟩)] w fun e w' => e = .returned (.bool (madeB p lo 8 false)) ∧ Below w.heap.size w w' := by
  have MA := Lib.hid (fun w => made_l p lo 8 false w hp hlo (by omega))
  go_enter Tryd.func112, Tryd.ntmps112
  go_wp2_with (go_at_call 105; refine (MA.out _).mono ?_; rintro e w1 ⟨rfl, hb1⟩)
  go_ret
  exact ⟨rfl, hb1⟩
theorem rest2_l (p : List UInt8) (w : World) (hp : p.length ≤ 140737488351232) : Calls Tryd.prog 111 #[.string (B p)] w fun e w' => e = .returned (.bool (madeB p 1 1 false && !privB p)) ∧ Below w.heap.size w w' := by
  obtain ⟨q, hq⟩ : ∃ q, madeB p 1 1 false = q := ⟨_, rfl⟩
  have MA : Hid (∀ w, Calls Tryd.prog 105 #[.string (B p), .int .i64 1, .int .i64 1, .bool false] w fun e w' => e = .returned (.bool q) ∧ Below w.heap.size w w') := Lib.hid (fun w => hq ▸ made_l p 1 1 false w hp (by omega) (by omega))
  have PR := Lib.hid (private_l p)
  rw [hq]
  clear hq
  cases q <;> (
    go_enter Tryd.func111, Tryd.ntmps111
    go_wp2_with (first | (go_at_call 105; (with_reducible refine (MA.out _).mono ?_); rintro e w1 ⟨rfl, hb1⟩) | (go_at_call 66; (with_reducible refine (PR.out _).mono ?_); rintro e w2 ⟨rfl, rfl⟩) | fail)
    go_ret
    exact ⟨rfl, hb1⟩)
theorem variant_l (p : List UInt8) (w : World) (hp : p.length ≤ 140737488351232) : Calls Tryd.prog 109 #[.string (B p)] w fun e w' => e = .returned (.bool (variantB p)) ∧ Below w.heap.size w w' := by
  obtain ⟨q, hq⟩ : ∃ q, madeB p 5 8 false = q := ⟨_, rfl⟩
  obtain ⟨q2, hq2⟩ : ∃ q, madeB p 4 4 false = q := ⟨_, rfl⟩
  have MA : Hid (∀ w, Calls Tryd.prog 105 #[.string (B p), .int .i64 5, .int .i64 8, .bool false] w fun e w' => e = .returned (.bool q) ∧ Below w.heap.size w w') := Lib.hid (fun w => hq ▸ made_l p 5 8 false w hp (by omega) (by omega))
  have MB : Hid (∀ w, Calls Tryd.prog 105 #[.string (B p), .int .i64 4, .int .i64 4, .bool false] w fun e w' => e = .returned (.bool q2) ∧ Below w.heap.size w w') := Lib.hid (fun w => hq2 ▸ made_l p 4 4 false w hp (by omega) (by omega))
  have DIG := Lib.hid digit_any
  have hv : variantB p = (q || (q2 && digC (p.headD 0))) := by unfold variantB; rw [hq, hq2]
  have hl : q2 = true → p.length = 4 := fun h => by rw [h] at hq2; unfold madeB at hq2; simp at hq2; omega
  rw [hv]
  clear hq hq2 hv
  cases q with
  | true =>
    go_enter Tryd.func109, Tryd.ntmps109
    go_wp2_with (go_at_call 105; (with_reducible refine (MA.out _).mono ?_); rintro e w1 ⟨rfl, hb1⟩)
    go_ret
    exact ⟨rfl, hb1⟩
  | false =>
    cases q2 with
    | false =>
      clear hl
      go_enter Tryd.func109, Tryd.ntmps109
      go_wp2_with (first | (go_at_call 105; (with_reducible refine (MA.out _).mono ?_); rintro e w1 ⟨rfl, hb1⟩) | (go_at_call 105; (with_reducible refine (MB.out _).mono ?_); rintro e w2 ⟨rfl, hb2⟩) | fail)
      go_ret
      exact ⟨rfl, hb1.trans (hb2.mono hb1.size)⟩
    | true =>
      have hl4 := hl rfl
      have h0 : 0 < p.length := by omega
      obtain ⟨c, hc⟩ : ∃ c, p[0] = c := ⟨_, rfl⟩
      have HE : Hid (digC (p.headD 0) = digitB (c.toNat : Int)) := Lib.hid (by rw [digitB_byte, ← hc]; cases p with | nil => simp at h0 | cons a t => rfl)
      have hw := wrap32_byte c
      clear hl
      go_enter Tryd.func109, Tryd.ntmps109
      go_wp2_with (first | (go_at_call 105; (with_reducible refine (MA.out _).mono ?_); rintro e w1 ⟨rfl, hb1⟩) | (go_at_call 105; (with_reducible refine (MB.out _).mono ?_); rintro e w2 ⟨rfl, hb2⟩) | (go_at_call 87; (with_reducible refine (DIG.out _ _).mono ?_); rintro e w3 ⟨rfl, rfl⟩) | fail)
      go_ret
      exact ⟨ret_bool (by rw [HE.out]; rfl), hb1.trans (hb2.mono hb1.size)⟩
theorem all3 (p : List UInt8) (h : p.length = 3) : p.all digC = (digC (p[0]'(by omega)) && (digC (p[1]'(by omega)) && digC (p[2]'(by omega)))) := by
  match p, h with
  | [x, y, z], _ => simp
theorem region_l (p : List UInt8) (w : World) (hp : p.length ≤ 140737488351232) : Calls Tryd.prog 108 #[.string (B p)] w fun e w' => e = .returned (.bool (regionB p)) ∧ Below w.heap.size w w' := by
  obtain ⟨q, hq⟩ : ∃ q, madeB p 2 2 true = q := ⟨_, rfl⟩
  have MA : Hid (∀ w, Calls Tryd.prog 105 #[.string (B p), .int .i64 2, .int .i64 2, .bool true] w fun e w' => e = .returned (.bool q) ∧ Below w.heap.size w w') := Lib.hid (fun w => hq ▸ made_l p 2 2 true w hp (by omega) (by omega))
  have DIG := Lib.hid digit_any
  have hv : regionB p = (q || (p.length == 3 && p.all digC)) := by unfold regionB; rw [hq]
  rw [hv]
  clear hq hv
  cases q with
  | true =>
    go_enter Tryd.func108, Tryd.ntmps108
    go_wp2_with (first | (go_at_call 105; (with_reducible refine (MA.out _).mono ?_); rintro e w1 ⟨rfl, hb1⟩) | (go_at_call 87; (with_reducible refine (DIG.out _ _).mono ?_); rintro e w3 ⟨rfl, rfl⟩) | fail)
    go_ret
    exact ⟨rfl, hb1⟩
  | false =>
    cases h3 : (p.length == 3) with
    | false =>
      have h3' : ((p.length : Int) == 3) = false := beq_eq_false_iff_ne.2 (by have := beq_eq_false_iff_ne.1 h3; omega)
      clear h3
      go_enter Tryd.func108, Tryd.ntmps108
      go_wp2_with (first | (go_at_call 105; (with_reducible refine (MA.out _).mono ?_); rintro e w1 ⟨rfl, hb1⟩) | (go_at_call 87; (with_reducible refine (DIG.out _ _).mono ?_); rintro e w3 ⟨rfl, rfl⟩) | fail)
      go_ret
      exact ⟨rfl, hb1⟩
    | true =>
      have hl := beq_iff_eq.1 h3
      have h3' : ((p.length : Int) == 3) = true := beq_iff_eq.2 (by omega)
      have l0 : 0 < p.length := by omega
      have l1 : 1 < p.length := by omega
      have l2 : 2 < p.length := by omega
      obtain ⟨a, ha⟩ : ∃ a, p[0] = a := ⟨_, rfl⟩
      obtain ⟨b, hb⟩ : ∃ b, p[1] = b := ⟨_, rfl⟩
      obtain ⟨c, hc⟩ : ∃ c, p[2] = c := ⟨_, rfl⟩
      have HA : p.all digC = (digitB (a.toNat : Int) && (digitB (b.toNat : Int) && digitB (c.toNat : Int))) := by
        rw [digitB_byte, digitB_byte, digitB_byte, ← ha, ← hb, ← hc]
        exact all3 p hl
      rw [HA]
      have wa := wrap32_byte a; have wb := wrap32_byte b; have wc := wrap32_byte c
      clear h3 hl HA
      cases d1 : digitB (a.toNat : Int) with
      | false =>
        go_enter Tryd.func108, Tryd.ntmps108
        go_wp2_with (first | (go_at_call 105; (with_reducible refine (MA.out _).mono ?_); rintro e w1 ⟨rfl, hb1⟩) | (go_at_call 87; (with_reducible refine (DIG.out _ _).mono ?_); rintro e w3 ⟨rfl, rfl⟩) | fail)
        go_ret
        exact ⟨rfl, hb1⟩
      | true =>
        cases d2 : digitB (b.toNat : Int) with
        | false =>
          go_enter Tryd.func108, Tryd.ntmps108
          go_wp2_with (first | (go_at_call 105; (with_reducible refine (MA.out _).mono ?_); rintro e w1 ⟨rfl, hb1⟩) | (go_at_call 87; (with_reducible refine (DIG.out _ _).mono ?_); rintro e w3 ⟨rfl, rfl⟩) | fail)
          go_ret
          exact ⟨rfl, hb1⟩
        | true =>
          go_enter Tryd.func108, Tryd.ntmps108
          go_wp2_with (first | (go_at_call 105; (with_reducible refine (MA.out _).mono ?_); rintro e w1 ⟨rfl, hb1⟩) | (go_at_call 87; (with_reducible refine (DIG.out _ _).mono ?_); rintro e w3 ⟨rfl, rfl⟩) | fail)
          go_ret
          exact ⟨rfl, hb1⟩
end Go.Proofs.YtfjcbodkjjmagaaDoor
