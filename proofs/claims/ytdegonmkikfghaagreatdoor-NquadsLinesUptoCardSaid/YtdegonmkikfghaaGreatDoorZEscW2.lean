/-
  utf.written, escape: contracts. By an AI agent.
-/
import Derived.Test.YtdegonmkikfghaaGreatDoorZEscW
import Derived.Test.YtdegonmkikfghaaGreatDoorShelf
namespace Go.Proofs.YtdegonmkikfghaaGreatDoor
open Go.RowKit
set_option maxRecDepth 100000
def letS : ByteArray := { data := #[116, 98, 110, 114, 102, 34, 39, 92] }
def meanS : ByteArray := { data := #[9, 8, 10, 13, 12, 34, 39, 92] }
def badS : ByteArray := { data := #[60, 62, 34, 123, 125, 124, 94, 96, 92] }
theorem ix_at (s : ByteArray) (c : Int) (k : Int) (h : Lib.indexByte s.data.toList c.toNat.toUInt8 = k) (u : World) :
   Calls Tryz.prog 86 #[.string s, .int .u8 c] u fun e w' => e = .returned (.int .i64 k) /\ w' = u := h ▸ Tryz.strings_IndexByte s c u
theorem mean_none (r : Int) (h0 : 0 <= r) (h1 : r < 128) (h2 : r ≠ 39) (h3 : letF r = none) : Lib.indexByte meanS.data.toList r.toNat.toUInt8 = -1 := by
 have h : ∀ n < 128, n ≠ 39 -> (letF ((n : Nat) : Int)).isNone = true -> Lib.indexByte meanS.data.toList (((n : Nat) : Int).toNat.toUInt8) = -1 := by decide +kernel
 obtain ⟨n, rfl⟩ := Int.eq_ofNat_of_zero_le h0
 exact h n (by omega) (by omega) (by rw [h3]; rfl)
theorem bad_ix (r : Int) (h0 : 0 <= r) (h1 : r < 128) : decide (0 <= Lib.indexByte badS.data.toList r.toNat.toUInt8) = decide (r ∈ badA) := by
 have h : ∀ n < 128, decide (0 <= Lib.indexByte badS.data.toList (((n : Nat) : Int).toNat.toUInt8)) = decide (((n : Nat) : Int) ∈ badA) := by decide +kernel
 obtain ⟨n, rfl⟩ := Int.eq_ofNat_of_zero_le h0
 exact h n (by omega)
theorem badA_low {r : Int} (h : r ∈ badA) : r < 128 := by
 simp [badA] at h; omega
theorem letF_some {r : Int} {c : UInt8} (h : letF r = some c) : (r = 9 /\ c = 116) \/ (r = 8 /\ c = 98) \/ (r = 10 /\ c = 110) \/ (r = 13 /\ c = 114) \/ (r = 12 /\ c = 102) \/ (r = 34 /\ c = 34) \/ (r = 92 /\ c = 92) := by
 unfold letF at h
 repeat' (first | (split at h; · next e => cases h; simp [e]) | cases h)
theorem letF_high {r : Int} (h : 128 <= r) : letF r = none := by
 unfold letF
 repeat' (first | rw [if_neg (by omega)] | rfl)
theorem letF_39 : letF 39 = none := by decide
theorem wr_u (way r : Int) (n : Nat) (h : wrF way r = 92 :: 117 :: digs4 n) : Value.string ({ data := #[92, 117] } ++ B (digs4 n)) = .string (B (wrF way r)) := by
 rw [h]
 exact congrArg Value.string (B_append [92, 117] (digs4 n))
theorem bytesOf_pos (r : Int) : 0 < (bytesOf r).length := by
 rw [bytesOf_len]
 split <;> (try split) <;> (try split) <;> omega
set_option maxHeartbeats 3200000 in
theorem written_l (way r : Int) (w : World) (h0 : 0 <= r) (h1 : r <= 1114111) :
   Calls Tryz.prog 81 #[.int .i32 r, .int .i64 way] w fun e w' => e = .returned (.string (B (wrF way r))) /\ Below w.heap.size w w' := by
 obtain ⟨n, hn⟩ := Int.eq_ofNat_of_zero_le h0
 have BY := Lib.hid (fun u => utfBytes_l r u h0 h1)
 by_cases hw : way = 1
 · subst hw
   by_cases h128 : r < 128
   · by_cases h39 : r = 39
     · have HF : Hid (wrF 1 r = byU r) := Lib.hid (by unfold wrF; rw [if_pos rfl, h39, letF_39]; rfl)
       have e39 : (r == 39) = true := by rw [h39]; rfl
       have n39 : (r != 39) = false := by rw [h39]; rfl
       have e127 : (r == 127) = false := by rw [h39]; rfl
       have d32 : ¬ r < 32 := by omega
       clear h39 hn
       go_enter Tryz.func81, Tryz.ntmps81
       go_wp2_with (go_at_call 121; (with_reducible refine (BY.out _).mono ?_); rintro e w1 ⟨cp, rfl, ha, hb⟩; have hback := conv_at (P := Tryz.prog) w1 25 9 5 _ cp _ (byU r) (bytesU_length r) (bytesOf_pos r) Tryz.underlying25 Tryz.underlying5 Tryz.underlying9 (bytesU_cells r ▸ ha); have HB := Lib.hid hb; clear ha hb)
       go_ret
       exact ⟨by rw [HF.out]; rfl, HB.out⟩
     have e39 : (r == 39) = false := beq_eq_false_iff_ne.2 h39
     have n39 : (r != 39) = true := bne_iff_ne.2 h39
     cases hl : letF r with
     | some c =>
       have HF : Hid (wrF 1 r = [92, c]) := Lib.hid (by unfold wrF; rw [if_pos rfl, hl])
       have hc := letF_some hl
       clear hl h39 hn e39 n39 h128 h0 h1 BY
       rcases hc with ⟨rfl, rfl⟩ | ⟨rfl, rfl⟩ | ⟨rfl, rfl⟩ | ⟨rfl, rfl⟩ | ⟨rfl, rfl⟩ | ⟨rfl, rfl⟩ | ⟨rfl, rfl⟩
       · have IX := Lib.hid (ix_at meanS 9 0 (by decide))
         unfold meanS at IX
         go_enter Tryz.func81, Tryz.ntmps81
         go_wp2_with (go_at_call 86; (with_reducible refine (IX.out _).mono ?_); rintro e w0 ⟨rfl, rfl⟩)
         go_ret
         exact ⟨by rw [HF.out]; rfl, Below.refl _ _⟩
       · have IX := Lib.hid (ix_at meanS 8 1 (by decide))
         unfold meanS at IX
         go_enter Tryz.func81, Tryz.ntmps81
         go_wp2_with (go_at_call 86; (with_reducible refine (IX.out _).mono ?_); rintro e w0 ⟨rfl, rfl⟩)
         go_ret
         exact ⟨by rw [HF.out]; rfl, Below.refl _ _⟩
       · have IX := Lib.hid (ix_at meanS 10 2 (by decide))
         unfold meanS at IX
         go_enter Tryz.func81, Tryz.ntmps81
         go_wp2_with (go_at_call 86; (with_reducible refine (IX.out _).mono ?_); rintro e w0 ⟨rfl, rfl⟩)
         go_ret
         exact ⟨by rw [HF.out]; rfl, Below.refl _ _⟩
       · have IX := Lib.hid (ix_at meanS 13 3 (by decide))
         unfold meanS at IX
         go_enter Tryz.func81, Tryz.ntmps81
         go_wp2_with (go_at_call 86; (with_reducible refine (IX.out _).mono ?_); rintro e w0 ⟨rfl, rfl⟩)
         go_ret
         exact ⟨by rw [HF.out]; rfl, Below.refl _ _⟩
       · have IX := Lib.hid (ix_at meanS 12 4 (by decide))
         unfold meanS at IX
         go_enter Tryz.func81, Tryz.ntmps81
         go_wp2_with (go_at_call 86; (with_reducible refine (IX.out _).mono ?_); rintro e w0 ⟨rfl, rfl⟩)
         go_ret
         exact ⟨by rw [HF.out]; rfl, Below.refl _ _⟩
       · have IX := Lib.hid (ix_at meanS 34 5 (by decide))
         unfold meanS at IX
         go_enter Tryz.func81, Tryz.ntmps81
         go_wp2_with (go_at_call 86; (with_reducible refine (IX.out _).mono ?_); rintro e w0 ⟨rfl, rfl⟩)
         go_ret
         exact ⟨by rw [HF.out]; rfl, Below.refl _ _⟩
       · have IX := Lib.hid (ix_at meanS 92 7 (by decide))
         unfold meanS at IX
         go_enter Tryz.func81, Tryz.ntmps81
         go_wp2_with (go_at_call 86; (with_reducible refine (IX.out _).mono ?_); rintro e w0 ⟨rfl, rfl⟩)
         go_ret
         exact ⟨by rw [HF.out]; rfl, Below.refl _ _⟩
     | none =>
       have IX := Lib.hid (ix_at meanS r (-1) (mean_none r h0 h128 h39 hl))
       unfold meanS at IX
       by_cases hu : r < 32 \/ r = 127
       · have HF : Hid (wrF 1 r = 92 :: 117 :: digs4 n) := Lib.hid (by unfold wrF; rw [if_pos rfl, hl]; simp only; rw [if_pos hu, hn]; rfl)
         have hn2 : n < 128 := by omega
         clear BY hl h39
         rcases hu with hu | hu
         · have DG := Lib.hid (fun u => digits_l n u (by omega))
           clear h1
           subst hn
           go_enter Tryz.func81, Tryz.ntmps81
           go_wp2_with first | (go_at_call 86; (with_reducible refine (IX.out _).mono ?_); rintro e w0 ⟨rfl, rfl⟩) | (go_at_call 120; (with_reducible refine (DG.out _).mono ?_); rintro e w1 ⟨rfl, hb⟩; have HB := Lib.hid hb; clear hb)
           go_ret
           exact ⟨congrArg Ending.returned (wr_u _ _ _ HF.out), HB.out⟩
         · subst hu
           obtain rfl : n = 127 := by omega
           have DG : Hid (∀ u, Calls Tryz.prog 120 #[.int .u64 127, .int .i64 4] u fun e w' => e = .returned (.string (B (digs4 127))) /\ Below u.heap.size u w') := Lib.hid (fun u => digits_l 127 u (by decide))
           clear hn h0 h1 h128 e39 n39 hn2
           go_enter Tryz.func81, Tryz.ntmps81
           go_wp2_with first | (go_at_call 86; (with_reducible refine (IX.out _).mono ?_); rintro e w0 ⟨rfl, rfl⟩) | (go_at_call 120; (with_reducible refine (DG.out _).mono ?_); rintro e w1 ⟨rfl, hb⟩; have HB := Lib.hid hb; clear hb)
           go_ret
           exact ⟨congrArg Ending.returned (wr_u _ _ _ HF.out), HB.out⟩
       · have HF : Hid (wrF 1 r = byU r) := Lib.hid (by unfold wrF; rw [if_pos rfl, hl]; simp only; rw [if_neg hu])
         have e127 : (r == 127) = false := beq_eq_false_iff_ne.2 (fun e => hu (.inr e))
         have d32 : ¬ r < 32 := fun e => hu (.inl e)
         clear hl h39 hu hn
         go_enter Tryz.func81, Tryz.ntmps81
         go_wp2_with first | (go_at_call 86; (with_reducible refine (IX.out _).mono ?_); rintro e w0 ⟨rfl, rfl⟩) | (go_at_call 121; (with_reducible refine (BY.out _).mono ?_); rintro e w1 ⟨cp, rfl, ha, hb⟩; have hback := conv_at (P := Tryz.prog) w1 25 9 5 _ cp _ (byU r) (bytesU_length r) (bytesOf_pos r) Tryz.underlying25 Tryz.underlying5 Tryz.underlying9 (bytesU_cells r ▸ ha); have HB := Lib.hid hb; clear ha hb)
         go_ret
         exact ⟨by rw [HF.out]; rfl, HB.out⟩
   · have HF : Hid (wrF 1 r = byU r) := Lib.hid (by unfold wrF; rw [if_pos rfl, letF_high (by omega)]; simp only; rw [if_neg (by omega)])
     have e127 : (r == 127) = false := beq_eq_false_iff_ne.2 (by omega)
     have d32 : ¬ r < 32 := by omega
     clear hn
     go_enter Tryz.func81, Tryz.ntmps81
     go_wp2_with (go_at_call 121; (with_reducible refine (BY.out _).mono ?_); rintro e w1 ⟨cp, rfl, ha, hb⟩; have hback := conv_at (P := Tryz.prog) w1 25 9 5 _ cp _ (byU r) (bytesU_length r) (bytesOf_pos r) Tryz.underlying25 Tryz.underlying5 Tryz.underlying9 (bytesU_cells r ▸ ha); have HB := Lib.hid hb; clear ha hb)
     go_ret
     exact ⟨by rw [HF.out]; rfl, HB.out⟩
 have ew : (way == 1) = false := beq_eq_false_iff_ne.2 hw
 have nw : (way != 1) = true := bne_iff_ne.2 hw
 by_cases h32 : r <= 32
 · have HF : Hid (wrF way r = 92 :: 117 :: digs4 n) := Lib.hid (by unfold wrF; rw [if_neg hw, if_pos (.inl h32), hn]; rfl)
   have DG := Lib.hid (fun u => digits_l n u (by omega))
   subst hn
   clear BY hw h1
   go_enter Tryz.func81, Tryz.ntmps81
   go_wp2_with (go_at_call 120; (with_reducible refine (DG.out _).mono ?_); rintro e w1 ⟨rfl, hb⟩; have HB := Lib.hid hb; clear hb)
   go_ret
   exact ⟨congrArg Ending.returned (wr_u _ _ _ HF.out), HB.out⟩
 by_cases h128 : r < 128
 · obtain ⟨k, hk⟩ : ∃ k, Lib.indexByte badS.data.toList r.toNat.toUInt8 = k := ⟨_, rfl⟩
   have hb := bad_ix r h0 h128
   rw [hk] at hb
   have IX := Lib.hid (ix_at badS r k hk)
   unfold badS at IX
   clear hk
   by_cases hm : r ∈ badA
   · have HF : Hid (wrF way r = 92 :: 117 :: digs4 n) := Lib.hid (by unfold wrF; rw [if_neg hw, if_pos (.inr hm), hn]; rfl)
     have DG := Lib.hid (fun u => digits_l n u (by omega))
     have k0 : 0 <= k := by rw [decide_eq_true hm] at hb; exact of_decide_eq_true hb
     subst hn
     clear BY hw hm hb h1
     go_enter Tryz.func81, Tryz.ntmps81
     go_wp2_with first | (go_at_call 86; (with_reducible refine (IX.out _).mono ?_); rintro e w0 ⟨rfl, rfl⟩) | (go_at_call 120; (with_reducible refine (DG.out _).mono ?_); rintro e w1 ⟨rfl, hb⟩; have HB := Lib.hid hb; clear hb)
     go_ret
     exact ⟨congrArg Ending.returned (wr_u _ _ _ HF.out), HB.out⟩
   · have HF : Hid (wrF way r = byU r) := Lib.hid (by unfold wrF; rw [if_neg hw, if_neg (not_or.2 ⟨h32, hm⟩)])
     have k0 : ¬ 0 <= k := by rw [decide_eq_false hm] at hb; exact of_decide_eq_false hb
     clear hw hm hb hn
     go_enter Tryz.func81, Tryz.ntmps81
     go_wp2_with first | (go_at_call 86; (with_reducible refine (IX.out _).mono ?_); rintro e w0 ⟨rfl, rfl⟩) | (go_at_call 121; (with_reducible refine (BY.out _).mono ?_); rintro e w1 ⟨cp, rfl, ha, hb⟩; have hback := conv_at (P := Tryz.prog) w1 25 9 5 _ cp _ (byU r) (bytesU_length r) (bytesOf_pos r) Tryz.underlying25 Tryz.underlying5 Tryz.underlying9 (bytesU_cells r ▸ ha); have HB := Lib.hid hb; clear ha hb)
     go_ret
     exact ⟨by rw [HF.out]; rfl, HB.out⟩
 · have HF : Hid (wrF way r = byU r) := Lib.hid (by unfold wrF; rw [if_neg hw, if_neg (not_or.2 ⟨h32, fun hm => h128 (badA_low hm)⟩)])
   clear hw hn
   go_enter Tryz.func81, Tryz.ntmps81
   go_wp2_with (go_at_call 121; (with_reducible refine (BY.out _).mono ?_); rintro e w1 ⟨cp, rfl, ha, hb⟩; have hback := conv_at (P := Tryz.prog) w1 25 9 5 _ cp _ (byU r) (bytesU_length r) (bytesOf_pos r) Tryz.underlying25 Tryz.underlying5 Tryz.underlying9 (bytesU_cells r ▸ ha); have HB := Lib.hid hb; clear ha hb)
   go_ret
   exact ⟨by rw [HF.out]; rfl, HB.out⟩
end Go.Proofs.YtdegonmkikfghaaGreatDoor
