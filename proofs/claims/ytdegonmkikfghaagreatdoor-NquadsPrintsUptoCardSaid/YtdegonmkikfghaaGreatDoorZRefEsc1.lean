/-
  tesseraref04: digits, hex, number: contracts. By an AI agent.
-/
import Derived.Test.YtdegonmkikfghaaGreatDoorZEscW
import Derived.Test.YtdegonmkikfghaaGreatDoorZGUtf
import Derived.BigQuiet
import Derived.WalkSmall
import Derived.Test.YtdegonmkikfghaaGreatDoorZEscW2
import Derived.Test.YtdegonmkikfghaaGreatDoorZGSpell
import Derived.Test.YtdegonmkikfghaaGreatDoorZBOwn
import Derived.Test.YtdegonmkikfghaaGreatDoorZEsc0
namespace Go.Proofs.YtdegonmkikfghaaGreatDoor
open Go.RowKit
set_option maxRecDepth 100000

/-- what is left of a number, and its last k digits -/
def digN (r : Nat) : Nat → Nat × List UInt8
  | 0 => (r, [])
  | k + 1 => ((digN r k).1 / 16, hexU ((digN r k).1 % 16) :: (digN r k).2)
theorem digN_4 (r : Nat) : (digN r 4).2 = digs4 r := by
  simp only [digN, digs4, Nat.div_div_eq_div_mul]
theorem hexS_cut (a : Nat) (h : a < 16) : ∀ v, (Instr.slice 9 (.string ⟨#[48, 49, 50, 51, 52, 53, 54, 55, 56, 57, 65, 66, 67, 68, 69, 70]⟩) (some (.int .i64 (a : Int))) (some (.int .i64 ((a : Int) + 1))) none).run Tryz.prog v = .ok (.string (B [hexU a])) v := by
  have h16 : a = 0 ∨ a = 1 ∨ a = 2 ∨ a = 3 ∨ a = 4 ∨ a = 5 ∨ a = 6 ∨ a = 7 ∨ a = 8 ∨ a = 9 ∨ a = 10 ∨ a = 11 ∨ a = 12 ∨ a = 13 ∨ a = 14 ∨ a = 15 := by omega
  rcases h16 with rfl | rfl | rfl | rfl | rfl | rfl | rfl | rfl | rfl | rfl | rfl | rfl | rfl | rfl | rfl | rfl <;> (intro v; kernel_rfl)
set_option maxHeartbeats 1600000 in
theorem refDigits_l (r : Nat) (w : World) (h : r < 4611686018427387904) :
    Calls Tryz.prog 138 #[.int .i64 (r : Int), .int .i64 4] w fun e w' => e = .returned (.string (B (digs4 r))) ∧ Below w.heap.size w w' := by
  have HE := Lib.hid (digN_4 r)
  have HH := Lib.hid h
  have hb : Below w.heap.size w w := Below.refl _ _
  clear h
  go_enter Tryz.func138, Tryz.ntmps138
  go_wp2_with fail
  go_loopw [0, 5, 6] (fun a s i wr => ∃ (k x : Nat) (l : List UInt8), k ≤ 4 ∧ x < 4611686018427387904 ∧ digN r k = (x, l) ∧ a = .int .i64 (x : Int) ∧ s = .string (B l) ∧ l.length = k ∧ i = .int .i64 (k : Int) ∧ Below w.heap.size w wr) (fun _ _ i _ => 4 - (intOf i).toNat)
  case atStart => exact ⟨0, r, [], by omega, HH.out, rfl, rfl, rfl, rfl, rfl, hb⟩
  case round =>
    obtain ⟨k, x, l, hk, hx, hd, rfl, rfl, hl, rfl, hb⟩ := hrel
    have HB := Lib.hid hb
    have HD := Lib.hid hd
    clear hb hd
    by_cases hlt : k < 4
    · have q9 : decide ((k : Int) < 4) = true := decide_eq_true (by omega)
      have sl := hexS_cut (x % 16) (by omega)
      rw [show ((x % 16 : Nat) : Int) = (x : Int) % 16 by omega] at sl
      have HS : Hid (digN r (k + 1) = (x / 16, hexU (x % 16) :: l)) := Lib.hid (by rw [digN, HD.out])
      go_wp2_with fail
      go_roundw
      case rel => exact ⟨k + 1, x / 16, hexU (x % 16) :: l, by omega, by omega, HS.out, by go_num, by simp, by simp; omega, by go_num, by first | exact HB.out | exact below_drewN HB.out _⟩
      case measure => simp [intOf]; omega
    · have HEE : Hid (digs4 r = l) := Lib.hid (by have := HD.out; rw [show k = 4 by omega] at this; rw [← HE.out, this])
      have q9 : decide ((k : Int) < 4) = false := decide_eq_false (by omega)
      go_wp2_with fail
      go_ret
      exact ⟨by rw [HEE.out]; rfl, HB.out⟩
end Go.Proofs.YtdegonmkikfghaaGreatDoor

/-
  tesseraref04: written, escape: contracts. By an AI agent.
-/
namespace Go.Proofs.YtdegonmkikfghaaGreatDoor
open Go.RowKit
set_option maxRecDepth 100000

def fromQ (k : Nat) : UInt8 := [8, 9, 10, 12, 13, 34, 92].getD k 0
def toQ (k : Nat) : UInt8 := [98, 116, 110, 102, 114, 34, 92].getD k 0
def noA (k : Nat) : UInt8 := [60, 62, 34, 123, 125, 124, 94, 96, 92].getD k 0
theorem fromQ_at : ∀ (n : Nat) (h : n < 7), ({ data := #[8, 9, 10, 12, 13, 34, 92] } : ByteArray)[n]'h = fromQ n := by decide
theorem noA_at : ∀ (n : Nat) (h : n < 9), ({ data := #[60, 62, 34, 123, 125, 124, 94, 96, 92] } : ByteArray)[n]'h = noA n := by decide
theorem toQ_cut (a : Nat) (h : a < 7) : ∀ v, (Instr.slice 9 (.string ⟨#[98, 116, 110, 102, 114, 34, 92]⟩) (some (.int .i64 (a : Int))) (some (.int .i64 ((a : Int) + 1))) none).run Tryz.prog v = .ok (.string (B [toQ a])) v := by
  have h7 : a = 0 ∨ a = 1 ∨ a = 2 ∨ a = 3 ∨ a = 4 ∨ a = 5 ∨ a = 6 := by omega
  rcases h7 with rfl | rfl | rfl | rfl | rfl | rfl | rfl <;> (intro v; kernel_rfl)
theorem letF_hit {k : Nat} (h : k < 7) : letF ((fromQ k).toNat : Int) = some (toQ k) := by
  have h7 : k = 0 ∨ k = 1 ∨ k = 2 ∨ k = 3 ∨ k = 4 ∨ k = 5 ∨ k = 6 := by omega
  rcases h7 with rfl | rfl | rfl | rfl | rfl | rfl | rfl <;> decide
theorem letF_miss {r : Int} (h : ∀ j, j < 7 → ((fromQ j).toNat : Int) ≠ r) : letF r = none := by
  have h0 := h 0 (by omega); have h1 := h 1 (by omega); have h2 := h 2 (by omega); have h3 := h 3 (by omega); have h4 := h 4 (by omega); have h5 := h 5 (by omega); have h6 := h 6 (by omega)
  simp [fromQ] at h0 h1 h2 h3 h4 h5 h6
  unfold letF
  rw [if_neg (fun e => h1 e.symm), if_neg (fun e => h0 e.symm), if_neg (fun e => h2 e.symm), if_neg (fun e => h4 e.symm), if_neg (fun e => h3 e.symm), if_neg (fun e => h5 e.symm), if_neg (fun e => h6 e.symm)]
/-- is a scalar low, or one of the first k that an IRI bars? -/
def badK (r : Int) (k : Nat) : Bool := decide (r ≤ 32) || decide (∃ j, j < k ∧ ((noA j).toNat : Int) = r)
theorem badK_0 (r : Int) : badK r 0 = decide (r ≤ 32) := by unfold badK; simp
theorem badK_succ (r : Int) (k : Nat) : badK r (k + 1) = if badK r k = true then true else (((noA k).toNat : Int) == r) := by
  unfold badK
  by_cases h1 : r ≤ 32
  · simp [h1]
  by_cases h2 : ∃ j, j < k ∧ ((noA j).toNat : Int) = r
  · have h3 : ∃ j, j < k + 1 ∧ ((noA j).toNat : Int) = r := h2.elim fun j hj => ⟨j, by omega, hj.2⟩
    simp only [h1, h2, h3, decide_true, decide_false, Bool.false_or, if_true]
  · by_cases h4 : ((noA k).toNat : Int) = r
    · have h3 : ∃ j, j < k + 1 ∧ ((noA j).toNat : Int) = r := ⟨k, by omega, h4⟩
      simp only [h1, h2, h3, h4, decide_true, decide_false, Bool.false_or, beq_self_eq_true]
      simp
    · have h3 : ¬ ∃ j, j < k + 1 ∧ ((noA j).toNat : Int) = r := by
        rintro ⟨j, hj, he⟩
        by_cases hjk : j = k
        · exact h4 (hjk ▸ he)
        · exact h2 ⟨j, by omega, he⟩
      rw [beq_eq_false_iff_ne.2 h4]
      simp only [h1, h2, h3, decide_false, Bool.false_or]
      simp
theorem badK_9 (r : Int) : badK r 9 = decide (r ≤ 32 ∨ r ∈ badA) := by
  unfold badK
  rw [Bool.decide_or]
  congr 1
  refine decide_eq_decide.2 ⟨?_, ?_⟩
  · rintro ⟨j, hj, rfl⟩
    have h9 : j = 0 ∨ j = 1 ∨ j = 2 ∨ j = 3 ∨ j = 4 ∨ j = 5 ∨ j = 6 ∨ j = 7 ∨ j = 8 := by omega
    rcases h9 with rfl | rfl | rfl | rfl | rfl | rfl | rfl | rfl | rfl <;> decide
  · intro h
    simp [badA] at h
    rcases h with rfl | rfl | rfl | rfl | rfl | rfl | rfl | rfl | rfl
    · exact ⟨0, by omega, by decide⟩
    · exact ⟨1, by omega, by decide⟩
    · exact ⟨2, by omega, by decide⟩
    · exact ⟨3, by omega, by decide⟩
    · exact ⟨4, by omega, by decide⟩
    · exact ⟨5, by omega, by decide⟩
    · exact ⟨6, by omega, by decide⟩
    · exact ⟨7, by omega, by decide⟩
    · exact ⟨8, by omega, by decide⟩
set_option maxHeartbeats 3200000 in
theorem refWritten_l (way r : Int) (w : World) (h0 : 0 ≤ r) (h1 : r ≤ 1114111) :
    Calls Tryz.prog 95 #[.int .i64 r, .int .i64 way] w fun e w' => e = .returned (.string (B (wrF way r))) ∧ Below w.heap.size w w' := by
  obtain ⟨n, hn⟩ := Int.eq_ofNat_of_zero_le h0
  have BY := Lib.hid (fun u => refBytes_any r u h0 h1)
  have DG : Hid (∀ u, Calls Tryz.prog 138 #[.int .i64 r, .int .i64 4] u fun e w' => e = .returned (.string (B (digs4 r.toNat))) ∧ Below u.heap.size u w') := Lib.hid (fun u => by
    have := refDigits_l n u (by omega)
    rw [hn, Int.toNat_natCast]
    exact this)
  clear hn
  have hbw : Below w.heap.size w w := Below.refl _ _
  by_cases hw : way = 1
  · subst hw
    go_enter Tryz.func95, Tryz.ntmps95
    go_wp2_with fail
    go_loopw [5] (fun i wr => ∃ k : Nat, k ≤ 7 ∧ i = .int .i64 k ∧ Hid (∀ j, j < k → ((fromQ j).toNat : Int) ≠ r) ∧ Below w.heap.size w wr) (fun i _ => 7 - (intOf i).toNat)
    case atStart => exact ⟨0, by omega, rfl, Lib.hid (fun j hj => by omega), hbw⟩
    case round =>
      obtain ⟨k, hk, rfl, HN, hb⟩ := hrel
      have HB := Lib.hid hb
      clear hb hbw
      by_cases hlt : k < 7
      · have q11 : decide ((k : Int) < 7) = true := decide_eq_true (by omega)
        have fx := fromQ_at k hlt
        have fl := (fromQ k).toNat_lt
        have cut := toQ_cut k hlt
        have j0 : 0 ≤ (k : Int) := by omega
        have j1 : (k : Int) < 7 := by omega
        by_cases he : ((fromQ k).toNat : Int) = r
        · have e1 : (((fromQ k).toNat : Int) == r) = true := beq_iff_eq.2 he
          have HE : Hid (wrF 1 r = [92, toQ k]) := Lib.hid (by unfold wrF; rw [if_pos rfl, ← he, letF_hit hlt])
          have HC := cat92 [toQ k]
          clear he HN BY DG h0 h1
          go_wp2_with fail
          go_ret
          exact ⟨by rw [HE.out]; rfl, HB.out⟩
        · have e1 : (((fromQ k).toNat : Int) == r) = false := beq_eq_false_iff_ne.2 he
          have HN2 : Hid (∀ j, j < k + 1 → ((fromQ j).toNat : Int) ≠ r) := Lib.hid (fun j hj => by
            by_cases hjk : j = k
            · rw [hjk]; exact he
            · exact HN.out j (by omega))
          clear he HN BY DG h0 h1
          go_wp2_with fail
          go_roundw
          case rel => exact ⟨k + 1, by omega, by go_num, HN2, HB.out⟩
          case measure => simp [intOf]; omega
      · have q11 : decide ((k : Int) < 7) = false := decide_eq_false (by omega)
        have hl := letF_miss (fun j hj => HN.out j (by omega))
        clear HN
        by_cases h32 : r < 32
        · have e1 : decide (r < 32) = true := decide_eq_true h32
          have HE : Hid (wrF 1 r = 92 :: 117 :: digs4 r.toNat) := Lib.hid (by unfold wrF; rw [if_pos rfl, hl]; exact if_pos (.inl h32))
          have HU := Lib.hid (wr_u 1 r r.toNat HE.out)
          clear hl BY h0 h1 h32
          go_wp2_with (go_at_call 138; (with_reducible refine (DG.out _).mono ?_); rintro e w1 ⟨rfl, hb⟩; have HB1 := Lib.hid (HB.out.trans (hb.mono HB.out.size)); clear hb)
          go_ret
          exact ⟨by rw [← HU.out]; rfl, HB1.out⟩
        · have e1 : decide (r < 32) = false := decide_eq_false h32
          by_cases h127 : r = 127
          · have e2 : (r == 127) = true := beq_iff_eq.2 h127
            have HE : Hid (wrF 1 r = 92 :: 117 :: digs4 r.toNat) := Lib.hid (by unfold wrF; rw [if_pos rfl, hl]; exact if_pos (.inr h127))
            have HU := Lib.hid (wr_u 1 r r.toNat HE.out)
            clear hl BY h0 h1 h32 h127
            go_wp2_with (go_at_call 138; (with_reducible refine (DG.out _).mono ?_); rintro e w1 ⟨rfl, hb⟩; have HB1 := Lib.hid (HB.out.trans (hb.mono HB.out.size)); clear hb)
            go_ret
            exact ⟨by rw [← HU.out]; rfl, HB1.out⟩
          · have e2 : (r == 127) = false := beq_eq_false_iff_ne.2 h127
            have HE : Hid (wrF 1 r = byU r) := Lib.hid (by unfold wrF; rw [if_pos rfl, hl]; exact if_neg (fun h => h.elim h32 h127))
            clear hl DG h0 h1 h32 h127
            go_wp2_with (go_at_call 139; (with_reducible refine (BY.out _).mono ?_); rintro e w1 ⟨cp, rfl, ha, hb⟩; have hback := conv_at (P := Tryz.prog) w1 25 9 5 _ cp _ (byU r) (bytesU_length r) (bytesOf_pos r) Tryz.underlying25 Tryz.underlying5 Tryz.underlying9 (bytesU_cells r ▸ ha); have HB1 := Lib.hid (HB.out.trans (hb.mono HB.out.size)); clear ha hb)
            go_ret
            exact ⟨by rw [HE.out]; rfl, HB1.out⟩
  · have q9 : (way == 1) = false := beq_eq_false_iff_ne.2 hw
    have HK0 := Lib.hid (badK_0 r)
    go_enter Tryz.func95, Tryz.ntmps95
    obtain ⟨b0, hb0⟩ : ∃ b0, decide (r ≤ 32) = b0 := ⟨_, rfl⟩
    go_wp2_with fail
    go_loopw [6, 7] (fun b i wr => ∃ (k : Nat), k ≤ 9 ∧ b = .bool (badK r k) ∧ i = .int .i64 k ∧ Below w.heap.size w wr) (fun _ i _ => 9 - (intOf i).toNat)
    case atStart => exact ⟨0, by omega, by rw [HK0.out, hb0], rfl, hbw⟩
    case round =>
      obtain ⟨k, hk, rfl, rfl, hb⟩ := hrel
      have HB := Lib.hid hb
      clear hb hbw hb0
      by_cases hlt : k < 9
      · have q11 : decide ((k : Int) < 9) = true := decide_eq_true (by omega)
        have fx := noA_at k hlt
        have fl := (noA k).toNat_lt
        have j0 : 0 ≤ (k : Int) := by omega
        have j1 : (k : Int) < 9 := by omega
        have hs := badK_succ r k
        obtain ⟨c, hc⟩ : ∃ c, (((noA k).toNat : Int) == r) = c := ⟨_, rfl⟩
        cases hbk : badK r k with
        | true =>
          rw [hbk, if_pos rfl] at hs
          have HS := Lib.hid hs
          clear hs hbk BY DG h0 h1
          go_wp2_with fail
          go_roundw
          case rel => exact ⟨k + 1, by omega, by rw [HS.out], by go_num, HB.out⟩
          case measure => simp [intOf]; omega
        | false =>
          rw [hbk, if_neg (by simp), hc] at hs
          have HS := Lib.hid hs
          clear hs hbk BY DG h0 h1
          go_wp2_with fail
          go_roundw
          case rel => exact ⟨k + 1, by omega, by rw [HS.out], by go_num, HB.out⟩
          case measure => simp [intOf]; omega
      · have HK : Hid (k = 9) := Lib.hid (by omega)
        have q11 : decide ((k : Int) < 9) = false := decide_eq_false (by omega)
        have h9 := badK_9 r
        rw [← HK.out] at h9
        cases hbk : badK r k with
        | true =>
          rw [hbk] at h9
          have HE : Hid (wrF way r = 92 :: 117 :: digs4 r.toNat) := Lib.hid (by unfold wrF; rw [if_neg hw]; exact if_pos (of_decide_eq_true h9.symm))
          have HU := Lib.hid (wr_u way r r.toNat HE.out)
          clear h9 hbk BY h0 h1 hw
          go_wp2_with (go_at_call 138; (with_reducible refine (DG.out _).mono ?_); rintro e w1 ⟨rfl, hb⟩; have HB1 := Lib.hid (HB.out.trans (hb.mono HB.out.size)); clear hb)
          go_ret
          exact ⟨by rw [← HU.out]; rfl, HB1.out⟩
        | false =>
          rw [hbk] at h9
          have HE : Hid (wrF way r = byU r) := Lib.hid (by unfold wrF; rw [if_neg hw]; exact if_neg (of_decide_eq_false h9.symm))
          clear h9 hbk DG h0 h1 hw
          go_wp2_with (go_at_call 139; (with_reducible refine (BY.out _).mono ?_); rintro e w1 ⟨cp, rfl, ha, hb⟩; have hback := conv_at (P := Tryz.prog) w1 25 9 5 _ cp _ (byU r) (bytesU_length r) (bytesOf_pos r) Tryz.underlying25 Tryz.underlying5 Tryz.underlying9 (bytesU_cells r ▸ ha); have HB1 := Lib.hid (HB.out.trans (hb.mono HB.out.size)); clear ha hb)
          go_ret
          exact ⟨by rw [HE.out]; rfl, HB1.out⟩
end Go.Proofs.YtdegonmkikfghaaGreatDoor

/-
  tesseraref04: Escape of a well-formed text, Unescape: contracts. By an AI agent.
-/
namespace Go.Proofs.YtdegonmkikfghaaGreatDoor
open Go.RowKit
set_option maxRecDepth 100000

/-- the cell of a result of two numbers -/
theorem fault_new (w : World) : RowAt (w.alloc (.cells #[.int .i64 0, .int .i64 0] 125)) w.heap.size [.int .i64 0, .int .i64 0] := rowAt_of_heap (L := [.int .i64 0, .int .i64 0]) (t := 125) (heap_alloc_new _ _)
theorem row_two {w : World} {g : Nat} {a b : Value} (h : RowAt w g [a, b]) : w.cell? ⟨g, 0, none⟩ = some a ∧ w.cell? ⟨g, 1, none⟩ = some b ∧ w.frozen? ⟨g, 0, none⟩ = false ∧ w.frozen? ⟨g, 1, none⟩ = false ∧ g < w.heap.size :=
  ⟨h.cell (j := 0) (by simp), h.cell (j := 1) (by simp), h.free (j := 0) (by simp), h.free (j := 1) (by simp), World.block_lt_of_cell? _ _ (h.cell (j := 0) (by simp))⟩
set_option maxHeartbeats 3200000 in
theorem refEsc_ok (way : Int) (l : List UInt8) (w : World) (hl : l.length ≤ 16777216) (hu : utfF l 0 = -1) :
    Calls Tryz.prog 68 #[.string (B l), .int .i64 way] w fun e w' => e = .returned (.tuple #[.string (B (escF way l 0)), .agg #[.int .i64 0, .int .i64 0]]) ∧ Below w.heap.size w w' := by
  have CH : Hid (∀ u, Calls Tryz.prog 64 #[.string (B l)] u fun e w' => e = .returned (.int .i64 (-1)) ∧ Below u.heap.size u w') := Lib.hid (fun u => hu ▸ refUtfCheck_l l u (by omega))
  have WR := Lib.hid (fun (v : Int) (h0 : 0 ≤ v) (h1 : v ≤ 1114111) (u : World) => refWritten_l way v u h0 h1)
  have NX := Lib.hid (fun (j : Nat) (hj : j < l.length) (v : Int) (n : Nat) (h : nextAt l (j : Int) = (v, n)) (u : World) => (by have := refNext_l l j u (by omega) (by omega); rw [h] at this; exact this : Calls Tryz.prog 91 #[.string (B l), .int .i64 (j : Int)] u fun e w' => e = .returned (.tuple #[.int .i64 v, .int .i64 (n : Int)]) ∧ Below u.heap.size u w'))
  have HU := Lib.hid hu
  have F0 := Lib.hid (fault_new w)
  have B0 : Hid (Below w.heap.size w (w.alloc (.cells #[.int .i64 0, .int .i64 0] 125))) := Lib.hid ((Below.refl _ _).alloc (Nat.le_refl _) _)
  clear hu
  go_enter Tryz.func68, Tryz.ntmps68
  go_wp2_with (go_at_call 64; (with_reducible refine (CH.out _).mono ?_); rintro e w1 ⟨rfl, hb1⟩; have HB1 := Lib.hid (B0.out.trans (hb1.mono B0.out.size)); have HF1 := Lib.hid (rowAt_below F0.out hb1); have hs1 := hb1.size; simp at hs1; clear hb1)
  go_loopw [6, 7] (fun i v wr => ∃ (j : Nat) (acc : List UInt8), i = .int .i64 j ∧ j ≤ l.length ∧ acc.length ≤ 6 * j ∧ Hid (escF way l 0 = acc ++ escF way l j) ∧ Hid (utfF l j = -1) ∧ Hid (BOwn (w.heap.size + 1) v acc wr) ∧ Hid (Below w.heap.size w wr) ∧ Hid (RowAt wr w.heap.size [.int .i64 0, .int .i64 0]) ∧ w.heap.size + 1 ≤ wr.heap.size) (fun i _ _ => l.length - (intOf i).toNat)
  case atStart => exact ⟨0, [], rfl, Nat.zero_le _, Nat.zero_le _, Lib.hid rfl, HU, Lib.hid (BOwn.nil _ _), HB1, HF1, hs1⟩
  case round =>
    obtain ⟨j, acc, rfl, hj, hacc, HS, HV, HO, HB, HF, hsz⟩ := hrel
    clear HB1 HF1 F0 B0
    by_cases hlt : j < l.length
    · have q19 : decide ((j : Int) < (l.length : Int)) = true := decide_eq_true (by omega)
      obtain ⟨v, n, hq⟩ : ∃ v n, nextAt l (j : Int) = (v, n) := ⟨_, _, rfl⟩
      have hn : n ≠ 0 := by
        rintro rfl
        have := HV.out
        rw [utfF_bad hlt hq] at this
        omega
      have hbd := nextAt_bound hq hn
      have hjn : j + n ≤ l.length := by omega
      have hn1 : 1 ≤ n := by omega
      have HE : Hid (escF way l 0 = (acc ++ wrF way v) ++ escF way l (j + n)) := Lib.hid (by rw [HS.out, escF_go hlt hq hn, List.append_assoc])
      have HW : Hid (utfF l (j + n) = -1) := Lib.hid (by have := HV.out; rw [utfF_go hlt hq hn] at this; exact this)
      have N2 := Lib.hid (NX.out j hlt v n hq)
      have W2 := Lib.hid (fun u => WR.out v hbd.2.2.1 hbd.2.2.2 u)
      have hwl := wrF_len way v
      have hlx : acc.length + (wrF way v).length ≤ 140737488355328 := by omega
      have hal : (acc ++ wrF way v).length ≤ 6 * (j + n) := by simp; omega
      clear hq hn HS HV NX WR hbd HU
      go_wp2_with (first
        | (go_at_call 91; (with_reducible refine (N2.out _).mono ?_); rintro e w2 ⟨rfl, hb2⟩; have HO2 := Lib.hid (HO.out.below hb2); have HB2 := Lib.hid (HB.out.trans (hb2.mono HB.out.size)); have HF2 := Lib.hid (rowAt_below HF.out hb2); have hs2 := hb2.size; clear hb2)
        | (go_at_call 95; (with_reducible refine (W2.out _).mono ?_); rintro e w3 ⟨rfl, hb3⟩; have HO3 := Lib.hid (HO2.out.below hb3); have HB3 := Lib.hid (HB2.out.trans (hb3.mono HB2.out.size)); have HF3 := Lib.hid (rowAt_below HF2.out hb3); have hs3 := hb3.size; clear hb3)
        | (at_builtin; refine wpList_app_str rfl (.tmp 26) (.tmp 29) rfl (w.heap.size + 1) _ acc (wrF way v) rfl HO3.out rfl hlx (by omega) ?_; intro v4 w4 hO4 hg4; have HO4 := Lib.hid hO4; have HB4 := Lib.hid (below_own HB3.out HO3.out hg4 (by omega)); have HF4 := Lib.hid (rowAt_own HF3.out HO3.out hg4 (by omega)); have hs4 := hg4.size; clear hO4 hg4))
      go_roundw
      case rel => exact ⟨j + n, acc ++ wrF way v, by go_num, hjn, hal, HE, HW, HO4, HB4, HF4, by omega⟩
      case measure => simp [intOf]; omega
    · have q19 : decide ((j : Int) < (l.length : Int)) = false := decide_eq_false (by omega)
      have HE : Hid (escF way l 0 = acc) := Lib.hid (by rw [HS.out, escF_end (by omega), List.append_nil])
      have hback := HO.out.back
      obtain ⟨c0, c1, f0, f1, hg⟩ := row_two HF.out
      clear HS HV NX WR HU CH HF
      go_wp2_with fail
      refine bodyPost_ret (v := .tuple #[.string (B acc), .agg #[.int .i64 0, .int .i64 0]]) (by simp [results, Tryz.results68, go_sem, c0, c1, f0, f1, hg]) rfl ?_
      rw [HE.out]
      exact ⟨rfl, (HB.out.setCell (p := ⟨w.heap.size, 0, none⟩) (Nat.le_refl _) _).setCell (p := ⟨w.heap.size, 1, none⟩) (Nat.le_refl _) _⟩
end Go.Proofs.YtdegonmkikfghaaGreatDoor
