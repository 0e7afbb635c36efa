/-
  utf.Next: the scalar at a place: contract. By an AI agent.
  The reference's Next: the scalar at a place, guessed and held against what would be written: contract. By an AI agent.
  The reference's Next: contract: it reads what the program's reads. By an AI agent.
  names.run and LabelAt, and the reference's LabelAt: contracts. By an AI agent.
-/
import Derived.Test.YtdhmpakhdhdebaaGreatDoorZGChars
import Derived.Test.YtdhmpakhdhdebaaGreatDoorZBuilder
namespace Go.Proofs.YtdhmpakhdhdebaaGreatDoor
open Go.Lib (hid)
open Go.RowKit
set_option maxRecDepth 100000
theorem and192 (d : UInt8) : bits .and .u8 (d.toNat : Int) 192 = (d.toNat : Int) / 64 * 64 := by
 have h : ∀ n < 256, bits .and .u8 ((n : Nat) : Int) 192 = ((n : Nat) : Int) / 64 * 64 := by decide +kernel
 exact h _ d.toNat_lt
theorem lead_any (c : UInt8) (w : World) : Calls Tryz.prog 61 #[.int .u8 (c.toNat : Int)] w fun e w' => e = .returned (.tuple #[.int .i64 (leadN c.toNat : Int), .int .i32 (leadV c.toNat)]) /\ w' = w := by
 have hc := c.toNat_lt
 have a31 := u8_and31 (x := (c.toNat : Int)) (by omega) (by omega)
 have a15 := u8_and15 (x := (c.toNat : Int)) (by omega) (by omega)
 have a7 := u8_and7 (x := (c.toNat : Int)) (by omega) (by omega)
 by_cases h1 : c.toNat < 128
 ·have hf := lead_1 h1
  have HF := hid hf
  clear hf
  go_enter Tryz.func61, Tryz.ntmps61
  go_wp2
  go_ret2
  exact ⟨by rw [HF.out.1, HF.out.2]; rfl, rfl⟩
 by_cases h2 : c.toNat < 192
 ·have hf := lead_0 (c := c.toNat) (.inl ⟨by omega, h2⟩)
  have hv : leadV c.toNat = 0 := by unfold leadV; rw [if_neg h1, if_pos h2]
  have HF := hid hf; have HV := hid hv
  clear hf hv
  go_enter Tryz.func61, Tryz.ntmps61
  go_wp2
  go_ret2
  exact ⟨by rw [HF.out, HV.out]; rfl, rfl⟩
 by_cases h3 : c.toNat < 224
 ·have hf := lead_2 (c := c.toNat) ⟨by omega, h3⟩
  have HF := hid hf
  clear hf
  go_enter Tryz.func61, Tryz.ntmps61
  go_wp2
  go_ret2
  exact ⟨by rw [HF.out.1, HF.out.2]; rfl, rfl⟩
 by_cases h4 : c.toNat < 240
 ·have hf := lead_3 (c := c.toNat) ⟨by omega, h4⟩
  have HF := hid hf
  clear hf
  go_enter Tryz.func61, Tryz.ntmps61
  go_wp2
  go_ret2
  exact ⟨by rw [HF.out.1, HF.out.2]; rfl, rfl⟩
 by_cases h5 : c.toNat < 248
 ·have hf := lead_4 (c := c.toNat) ⟨by omega, h5⟩
  have HF := hid hf
  clear hf
  go_enter Tryz.func61, Tryz.ntmps61
  go_wp2
  go_ret2
  exact ⟨by rw [HF.out.1, HF.out.2]; rfl, rfl⟩
 have hf := lead_0 (c := c.toNat) (.inr (by omega))
 have hv : leadV c.toNat = 0 := by unfold leadV; rw [if_neg h1, if_neg h2, if_neg h3, if_neg h4, if_neg h5]
 have HF := hid hf; have HV := hid hv
 clear hf hv
 go_enter Tryz.func61, Tryz.ntmps61
 go_wp2
 go_ret2
 exact ⟨by rw [HF.out, HV.out]; rfl, rfl⟩
theorem least_any (n : Nat) (hn : n <= 4) (w : World) : Calls Tryz.prog 62 #[.int .i64 (n : Int)] w fun e w' => e = .returned (.int .i32 (leastOf n)) /\ w' = w := by
 have i0 : ∀ w, (Instr.index 180 (.agg #[.int .i32 0, .int .i32 0, .int .i32 128, .int .i32 2048, .int .i32 65536]) (.int .i64 0)).run Tryz.prog w = .ok (.int .i32 0) w := fun _ => by kernel_rfl
 have i1 : ∀ w, (Instr.index 180 (.agg #[.int .i32 0, .int .i32 0, .int .i32 128, .int .i32 2048, .int .i32 65536]) (.int .i64 1)).run Tryz.prog w = .ok (.int .i32 0) w := fun _ => by kernel_rfl
 have i2 : ∀ w, (Instr.index 180 (.agg #[.int .i32 0, .int .i32 0, .int .i32 128, .int .i32 2048, .int .i32 65536]) (.int .i64 2)).run Tryz.prog w = .ok (.int .i32 128) w := fun _ => by kernel_rfl
 have i3 : ∀ w, (Instr.index 180 (.agg #[.int .i32 0, .int .i32 0, .int .i32 128, .int .i32 2048, .int .i32 65536]) (.int .i64 3)).run Tryz.prog w = .ok (.int .i32 2048) w := fun _ => by kernel_rfl
 have i4 : ∀ w, (Instr.index 180 (.agg #[.int .i32 0, .int .i32 0, .int .i32 128, .int .i32 2048, .int .i32 65536]) (.int .i64 4)).run Tryz.prog w = .ok (.int .i32 65536) w := fun _ => by kernel_rfl
 have hc : n = 0 \/ n = 1 \/ n = 2 \/ n = 3 \/ n = 4 := by omega
 rcases hc with rfl | rfl | rfl | rfl | rfl
 all_goals
  go_enter Tryz.func62, Tryz.ntmps62
  go_wp2
  go_ret
  exact ⟨rfl, rfl⟩
theorem scalar_any (r : Int) (w : World) : Calls Tryz.prog 63 #[.int .i32 r] w fun e w' => e = .returned (.bool (scal r)) /\ w' = w := by
 by_cases h1 : 0 <= r
 ·by_cases h2 : r <= 1114111
  ·by_cases h3 : r < 55296
   ·have HF := hid (scal_mk (r := r) ⟨h1, h2, .inl h3⟩)
    go_enter Tryz.func63, Tryz.ntmps63
    go_wp2
    go_ret
    exact ⟨by rw [HF.out]; rfl, rfl⟩
   ·by_cases h4 : 57343 < r
    ·have HF := hid (scal_mk (r := r) ⟨h1, h2, .inr h4⟩)
     go_enter Tryz.func63, Tryz.ntmps63
     go_wp2
     go_ret
     exact ⟨by rw [HF.out]; rfl, rfl⟩
    ·have HF : Hid (scal r = false) := by
      refine hid ?_
      cases hs : scal r with
      | false => rfl
      | true => have := scal_nonneg hs; omega
     go_enter Tryz.func63, Tryz.ntmps63
     go_wp2
     go_ret
     exact ⟨by rw [HF.out]; rfl, rfl⟩
  ·have HF : Hid (scal r = false) := by
    refine hid ?_
    cases hs : scal r with
    | false => rfl
    | true => have := scal_nonneg hs; omega
   go_enter Tryz.func63, Tryz.ntmps63
   go_wp2
   go_ret
   exact ⟨by rw [HF.out]; rfl, rfl⟩
 ·have HF : Hid (scal r = false) := by
   refine hid ?_
   cases hs : scal r with
   | false => rfl
   | true => have := scal_nonneg hs; omega
  go_enter Tryz.func63, Tryz.ntmps63
  go_wp2
  go_ret
  exact ⟨by rw [HF.out]; rfl, rfl⟩
theorem leadN_le (c : Nat) : leadN c <= 4 := by
 unfold leadN
 repeat' split
 all_goals omega
theorem leadV_bound (c : Nat) : 0 <= leadV c /\ leadV c < 128 /\ (leadN c ≠ 1 -> leadV c < 32) := by
 unfold leadV leadN
 repeat' split
 all_goals omega
def pairV (r : Int × Nat) : Value := .tuple #[.int .i32 r.1, .int .i64 (r.2 : Int)]
set_option maxHeartbeats 1600000 in
theorem next_l (l : List UInt8) (i : Int) (w : World) (hl : l.length <= 4611686018427387904) (hi : -9223372036854775808 <= i /\ i <= 9223372036854775807) :
  Calls Tryz.prog 40 #[.string (B l), .int .i64 i] w fun e w' => e = .returned (pairV (nextAt l i)) /\ w' = w := by
 have LEAD := hid lead_any; have LEAST := hid least_any; have SCAL := hid scalar_any
 by_cases h0 : i < 0
 ·have HF := hid (nextAt_out (l := l) (.inl h0))
  go_enter Tryz.func40, Tryz.ntmps40
  go_wp2_with fail
  go_ret2
  exact ⟨by rw [HF.out]; rfl, rfl⟩
 obtain ⟨n, rfl⟩ := Int.eq_ofNat_of_zero_le (Int.not_lt.1 h0)
 by_cases h1 : l.length <= n
 ·have HF := hid (nextAt_out (l := l) (i := (n : Int)) (.inr (by omega)))
  go_enter Tryz.func40, Tryz.ntmps40
  go_wp2_with fail
  go_ret2
  exact ⟨by rw [HF.out]; rfl, rfl⟩
 have hn : n < l.length := by omega
 have HF := hid (nextAt_at hn)
 obtain ⟨c, hc⟩ : ∃ c, l[n] = c := ⟨_, rfl⟩
 have HC := hid hc
 obtain ⟨N, hN⟩ : ∃ N, leadN c.toNat = N := ⟨_, rfl⟩
 obtain ⟨V, hV⟩ : ∃ V, leadV c.toNat = V := ⟨_, rfl⟩
 have hN4 : N <= 4 := hN ▸ leadN_le _
 have hVb := leadV_bound c.toNat
 rw [hV, hN] at hVb
 have HN := hid hN; have HV := hid hV
 have LEADc := hid (fun (w : World) => hV ▸ hN ▸ lead_any c w)
 clear h0 h1 hN hV
 by_cases hq : N = 0 \/ l.length - n < N
 ·have HE : Hid (nextAt l n = (0, 0)) := hid (by rw [HF.out, HC.out, nextP_none]; rw [HN.out]; simp; omega)
  by_cases hq0 : N = 0
  ·have hq1 : ((N : Int) == 0) = true := by rw [hq0]; rfl
   clear hq
   go_enter Tryz.func40, Tryz.ntmps40
   go_wp2_with (go_at_call 61; refine (LEADc.out _).mono ?_; rintro e w1 ⟨rfl, rfl⟩)
   go_ret2
   exact ⟨by rw [HE.out]; rfl, rfl⟩
  ·have hq1 : ((N : Int) == 0) = false := by rw [beq_eq_false_iff_ne]; omega
   have hq2 : (l.length : Int) < n + N := by omega
   clear hq
   go_enter Tryz.func40, Tryz.ntmps40
   go_wp2_with (go_at_call 61; refine (LEADc.out _).mono ?_; rintro e w1 ⟨rfl, rfl⟩)
   go_ret2
   exact ⟨by rw [HE.out]; rfl, rfl⟩
 ·have hq1 : ((N : Int) == 0) = false := by rw [beq_eq_false_iff_ne]; omega
  have hq2 : ¬ (l.length : Int) < n + N := by omega
  have hN1 : 1 <= N := by omega
  have HO : Hid (nextAt l n = finN N (tailV V (l.drop (n + 1)) (N - 1))) :=
   hid (by rw [HF.out, HC.out, nextP_out HN.out HV.out (by omega) (by simp; omega)])
  clear hq
  go_enter Tryz.func40, Tryz.ntmps40
  go_wp2_with (go_at_call 61; refine (LEADc.out _).mono ?_; rintro e w1 ⟨rfl, rfl⟩)
  go_loop [7, 8] (fun r i => ∃ (k : Nat) (acc : Int), 1 <= k /\ k <= N /\ i = .int .i64 k /\ r = .int .i32 acc /\ (0 <= acc /\ acc < 8388608 /\ (k = 1 -> acc < 128) /\ (k = 1 -> 1 < N -> acc < 32) /\ (k = 2 -> acc < 2048) /\ (k = 3 -> acc < 131072)) /\ Hid (tailV V (l.drop (n + 1)) (N - 1) = tailV acc (l.drop (n + k)) (N - k))) (fun _ i => N - (intOf i).toNat)
  case atStart => exact ⟨1, V, Nat.le_refl _, hN1, rfl, rfl, by omega, rfl⟩
  case round =>
   obtain ⟨k, acc, hk1, hkN, rfl, rfl, hacc, HT⟩ := hrel
   by_cases hlt : k < N
   ·have hnk : n + k < l.length := by omega
    have HD := hid (List.drop_eq_getElem_cons hnk)
    obtain ⟨d, hd⟩ : ∃ d, l[n + k] = d := ⟨_, rfl⟩
    have HDD := hid hd
    have hdl := d.toNat_lt
    have h192 := and192 d
    have h63 := u8_and63 (x := (d.toNat : Int)) (by omega) (by omega)
    by_cases hd2 : d.toNat / 64 = 2
    ·have hb1 : ((d.toNat : Int) / 64 * 64 != 128) = false := by simp; omega
     have ha : 0 <= acc /\ acc < 131072 := by omega
     have hw : IntKind.i32.wrap (acc * 64) = acc * 64 := wraps_i32 _ (by omega) (by omega)
     have ho : bits .or .i32 (acc * 64) ((d.toNat : Int) % 64) = acc * 64 + (d.toNat : Int) % 64 := i32_or6 _ _ (by omega) (by omega) (by omega) (by omega) (by omega)
     have HT2 : Hid (tailV V (l.drop (n + 1)) (N - 1) = tailV (acc * 64 + (d.toNat : Int) % 64) (l.drop (n + (k + 1))) (N - (k + 1))) :=
      hid (by rw [HT.out, HD.out, HDD.out, show N - k = (N - (k + 1)) + 1 by omega, tailV_s, if_pos hd2]; rfl)
     have hbnd : 0 <= acc * 64 + (d.toNat : Int) % 64 /\ acc * 64 + (d.toNat : Int) % 64 < 8388608 /\ (k + 1 = 1 -> acc * 64 + (d.toNat : Int) % 64 < 128) /\ (k + 1 = 1 -> 1 < N -> acc * 64 + (d.toNat : Int) % 64 < 32) /\ (k + 1 = 2 -> acc * 64 + (d.toNat : Int) % 64 < 2048) /\ (k + 1 = 3 -> acc * 64 + (d.toNat : Int) % 64 < 131072) := by omega
     have HB := hid hbnd
     clear hd2 hbnd HT HD hacc
     go_wp2_with fail
     go_round
     case rel => exact ⟨k + 1, _, by omega, by omega, by go_num, rfl, HB.out, HT2⟩
     case measure => simp [intOf]; omega
    ·have hb1 : ((d.toNat : Int) / 64 * 64 != 128) = true := by simp; omega
     have HE : Hid (nextAt l n = (0, 0)) := hid (by rw [HO.out, HT.out, HD.out, HDD.out, show N - k = (N - (k + 1)) + 1 by omega, tailV_s, if_neg hd2, finN])
     clear hd2 HT HD hacc
     go_wp2_with fail
     go_ret2
     exact ⟨by rw [HE.out]; rfl, rfl⟩
   ·obtain rfl : k = N := by omega
    have HE : Hid (nextAt l n = if acc < leastOf k \/ scal acc = false then (0, 0) else (acc, k)) := hid (by rw [HO.out, HT.out, Nat.sub_self, tailV, finN])
    clear HT hacc
    by_cases hle : acc < leastOf k
    ·have HE2 : Hid (nextAt l n = (0, 0)) := hid (by rw [HE.out, if_pos (Or.inl hle)])
     clear HE
     go_wp2_with (go_at_call 62; refine (LEAST.out k hN4 _).mono ?_; rintro e w1 ⟨rfl, rfl⟩)
     go_ret2
     exact ⟨by rw [HE2.out]; rfl, rfl⟩
    ·cases hs : scal acc with
     | false =>
      have HE2 : Hid (nextAt l n = (0, 0)) := hid (by rw [HE.out, if_pos (Or.inr hs)])
      clear HE
      go_wp2_with (first | (go_at_call 62; refine (LEAST.out k hN4 _).mono ?_; rintro e w1 ⟨rfl, rfl⟩) | (go_at_call 63; refine (SCAL.out acc _).mono ?_; rintro e w1 ⟨rfl, rfl⟩))
      go_ret2
      exact ⟨by rw [HE2.out]; rfl, rfl⟩
     | true =>
      have HE2 : Hid (nextAt l n = (acc, k)) := hid (by rw [HE.out, if_neg]; rintro (h | h); exact hle h; rw [hs] at h; cases h)
      clear HE
      go_wp2_with (first | (go_at_call 62; refine (LEAST.out k hN4 _).mono ?_; rintro e w1 ⟨rfl, rfl⟩) | (go_at_call 63; refine (SCAL.out acc _).mono ?_; rintro e w1 ⟨rfl, rfl⟩))
      go_ret2
      exact ⟨by rw [HE2.out]; rfl, rfl⟩
end Go.Proofs.YtdhmpakhdhdebaaGreatDoor
namespace Go.Proofs.YtdhmpakhdhdebaaGreatDoor
open Go.Lib (hid)
open Go.RowKit
set_option maxRecDepth 100000
theorem refScalar_any (r : Int) (w : World) : Calls Tryz.prog 137 #[.int .i64 r] w fun e w' => e = .returned (.bool (scal r)) /\ w' = w := by
 have hx : scal r = true /\ (0 <= r /\ r <= 1114111 /\ (r < 55296 \/ 57343 < r)) \/ scal r = false /\ ¬ (0 <= r /\ r <= 1114111 /\ (r < 55296 \/ 57343 < r)) := by
  cases hs : scal r with
  | false => exact .inr ⟨rfl, fun h => by rw [scal_mk h] at hs; cases hs⟩
  | true => exact .inl ⟨rfl, scal_nonneg hs⟩
 obtain ⟨q, hq⟩ : ∃ q, scal r = q := ⟨_, rfl⟩
 rw [hq] at hx ⊢
 clear hq
 by_cases h1 : 0 <= r
 ·by_cases h2 : r <= 1114111
  ·by_cases h3 : r < 55296
   ·obtain rfl : q = true := by rcases hx with h | h; exact h.1; omega
    clear hx
    go_enter Tryz.func137, Tryz.ntmps137
    go_wp2
    go_ret
    exact ⟨rfl, rfl⟩
   ·by_cases h4 : 57343 < r
    ·obtain rfl : q = true := by rcases hx with h | h; exact h.1; omega
     clear hx
     go_enter Tryz.func137, Tryz.ntmps137
     go_wp2
     go_ret
     exact ⟨rfl, rfl⟩
    ·obtain rfl : q = false := by rcases hx with h | h; omega; exact h.1
     clear hx
     go_enter Tryz.func137, Tryz.ntmps137
     go_wp2
     go_ret
     exact ⟨rfl, rfl⟩
  ·obtain rfl : q = false := by rcases hx with h | h; omega; exact h.1
   clear hx
   go_enter Tryz.func137, Tryz.ntmps137
   go_wp2
   go_ret
   exact ⟨rfl, rfl⟩
 ·obtain rfl : q = false := by rcases hx with h | h; omega; exact h.1
  clear hx
  go_enter Tryz.func137, Tryz.ntmps137
  go_wp2
  go_ret
  exact ⟨rfl, rfl⟩
def BytesOut (r : Int) (w : World) (e : Ending) (w' : World) : Prop := ∃ c, e = .returned (.slice (some ⟨w.heap.size, 0, none⟩) (bytesOf r).length c) /\ At w' (some ⟨w.heap.size, 0, none⟩) ((bytesOf r).map (Value.int .u8)) /\ Below w.heap.size w w'
theorem bytes_out {r : Int} {w : World} (t : TypeId) (L : List Int) (h : bytesOf r = L) : BytesOut r w (.returned (.slice (some ⟨w.heap.size, 0, none⟩) L.length L.length)) (w.alloc (.cells (L.map (Value.int .u8)).toArray t)) := by
 subst h
 refine ⟨_, rfl, fun j hj => ⟨w.heap.size, 0, rfl, ?_⟩, (Below.refl _ _).alloc (Nat.le_refl _) _⟩
 rw [Nat.zero_add, World.cell?_alloc_new]
 simp only [List.getElem?_toArray]
 exact List.getElem?_eq_getElem hj
theorem refBytes_any (r : Int) (w : World) (h0 : 0 <= r) (h1 : r <= 1114111) :
  Calls Tryz.prog 138 #[.int .i64 r] w fun e w' => BytesOut r w e w' := by
 by_cases a : r < 128
 ·have HF := hid (bytesOf1 a)
  go_enter Tryz.func138, Tryz.ntmps138
  go_wp2
  go_ret
  exact bytes_out 5 [r] (by rw [HF.out, show r % 256 = r by omega])
 by_cases b : r < 2048
 ·have HF := hid (bytesOf2 (by omega) b)
  go_enter Tryz.func138, Tryz.ntmps138
  go_wp2
  go_ret
  exact bytes_out 5 [192 + r / 64, 128 + r % 64] (by rw [HF.out, show (192 + r / 64) % 256 = 192 + r / 64 by omega, show (128 + r % 64) % 256 = 128 + r % 64 by omega])
 by_cases c : r < 65536
 ·have HF := hid (bytesOf3 (by omega) c)
  go_enter Tryz.func138, Tryz.ntmps138
  go_wp2
  go_ret
  exact bytes_out 5 [224 + r / 4096, 128 + r / 64 % 64, 128 + r % 64] (by rw [HF.out, show (224 + r / 4096) % 256 = 224 + r / 4096 by omega, show (128 + r / 64 % 64) % 256 = 128 + r / 64 % 64 by omega, show (128 + r % 64) % 256 = 128 + r % 64 by omega])
 ·have HF := hid (bytesOf4 (r := r) (by omega))
  go_enter Tryz.func138, Tryz.ntmps138
  go_wp2
  go_ret
  exact bytes_out 5 [240 + r / 262144, 128 + r / 4096 % 64, 128 + r / 64 % 64, 128 + r % 64] (by rw [HF.out, show (240 + r / 262144) % 256 = 240 + r / 262144 by omega, show (128 + r / 4096 % 64) % 256 = 128 + r / 4096 % 64 by omega, show (128 + r / 64 % 64) % 256 = 128 + r / 64 % 64 by omega, show (128 + r % 64) % 256 = 128 + r % 64 by omega])
def bytesU (r : Int) : List UInt8 := (bytesOf r).map fun x => UInt8.ofNat x.toNat
theorem bytesOf_mem (r : Int) : ∀ x ∈ bytesOf r, 0 <= x /\ x < 256 := by
 intro x hx
 unfold bytesOf at hx
 split at hx
 ·simp at hx; omega
 ·split at hx
  ·simp at hx; omega
  ·split at hx
   ·simp at hx; omega
   ·simp at hx; omega
theorem bytesU_ints (r : Int) : ints (bytesU r) = bytesOf r := by
 unfold ints bytesU
 rw [List.map_map]
 conv => rhs; rw [<- List.map_id (bytesOf r)]
 apply List.map_congr_left
 intro x hx
 have := bytesOf_mem r x hx
 simp
 omega
theorem ints_inj : ∀ {a b : List UInt8}, ints a = ints b -> a = b
 | [], [], _ => rfl
 | [], _ :: _, h => by simp [ints] at h
 | _ :: _, [], h => by simp [ints] at h
 | x :: a, y :: b, h => by
  simp only [ints, List.map_cons, List.cons.injEq] at h
  rw [ints_inj (a := a) (b := b) h.2, UInt8.toNat_inj.1 (show x.toNat = y.toNat by omega)]
theorem bytesU_cells (r : Int) : (bytesOf r).map (Value.int .u8) = (bytesU r).map U8 := by
 rw [<- bytesU_ints]
 simp [ints, U8]
theorem bytesU_length (r : Int) : (bytesU r).length = (bytesOf r).length := by simp [bytesU]
theorem guess_yes {b : List UInt8} {V : Int} (h : sumV b = V) (hs : scal V = true) (he : bytesU V = b) : guessV b = V := by
 unfold guessV
 rw [h, if_pos ⟨hs, by rw [<- he, bytesU_ints]⟩]
theorem guess_no {b : List UInt8} {V : Int} (h : sumV b = V) (hs : ¬ (scal V = true /\ bytesU V = b)) : guessV b = -1 := by
 unfold guessV
 rw [h, if_neg]
 rintro ⟨h1, h2⟩
 exact hs ⟨h1, ints_inj (by rw [bytesU_ints, h2])⟩
def sumTo (b : List UInt8) (k : Nat) : Int := match b with
 | [] => 0
 | c :: t => (t.take (k - 1)).foldl (fun r d => r * 64 + (d.toNat : Int) - 128) ((c.toNat : Int) - leadOf b.length)
theorem sumTo_all (b : List UInt8) : sumTo b b.length = sumV b := by
 cases b with
 | nil => rfl
 | cons c t => simp [sumTo, sumV]
theorem sumTo_succ (b : List UInt8) (k : Nat) (hk : 1 <= k) (h : k < b.length) : sumTo b (k + 1) = sumTo b k * 64 + (b[k].toNat : Int) - 128 := by
 match b, h with
 | c :: t, h =>
  simp only [sumTo]
  simp at h
  rw [show k + 1 - 1 = (k - 1) + 1 by omega, List.take_succ_eq_append_getElem (by omega), List.foldl_append]
  simp only [List.foldl_cons, List.foldl_nil]
  match k, hk with
  | j + 1, _ => simp
theorem sumTo_one (b : List UInt8) (h : 0 < b.length) : sumTo b 1 = (b[0].toNat : Int) - leadOf b.length := by
 match b, h with
 | c :: t, _ => simp [sumTo]
theorem leadOf_bound (n : Nat) : 0 <= leadOf n /\ leadOf n <= 240 := by
 unfold leadOf
 repeat' split
 all_goals omega
theorem guess_below {w W W1 w2 : World} (h1 : Below w.heap.size w W) (h2 : Below W1.heap.size W1 w2) (hx : W1.heap = W.heap := by rfl) (ho : W1.os = W.os := by rfl) (ht : W1.tape = W.tape := by rfl) (hp : W1.output = W.output := by rfl) : Below w.heap.size w w2 := by
 have h3 : Below W1.heap.size W W1 := ⟨ho, ht, hp, by rw [hx]; exact Nat.le_refl _, fun k _ => by rw [hx]⟩
 exact (h1.trans (h3.mono (by rw [hx]; exact h1.size))).trans (h2.mono (by rw [hx]; exact h1.size))
theorem gu_drewN {b : Nat} {a w : World} (h : Below b a w) (n : Nat) : Below b a (w.drewN n) := h.trans ⟨rfl, rfl, rfl, Nat.le_refl _, fun _ _ => rfl⟩
set_option maxHeartbeats 1600000 in
theorem guess_l (b : List UInt8) (a : Option Addr) (cap : Nat) (w : World) (hb1 : 1 <= b.length) (hb4 : b.length <= 4) (h1 : At w a (b.map U8)) :
  Calls Tryz.prog 92 #[.slice a b.length cap] w fun e w' => e = .returned (.int .i64 (guessV b)) /\ Below w.heap.size w w' := by
 obtain ⟨p, o, rfl⟩ := h1.place (by simp; omega)
 have SCAL := hid refScalar_any; have BYT := hid refBytes_any
 have hc0 : w.cell? ⟨p, o, none⟩ = some (.int .u8 (b[0].toNat : Int)) := by have := h1.get (j := 0) (by simp; omega); simpa [U8] using this
 have H1 := hid h1
 clear h1
 obtain ⟨n, hn⟩ : ∃ n, b.length = n := ⟨_, rfl⟩
 obtain ⟨L, hL⟩ : ∃ L, leadOf n = L := ⟨_, rfl⟩
 have hLb := leadOf_bound n
 rw [hL] at hLb
 obtain ⟨c0, hc⟩ : ∃ c, b[0] = c := ⟨_, rfl⟩
 have hc0l := c0.toNat_lt
 rw [hc] at hc0
 have hcell : ∀ wx : World, (wx.alloc (.cells #[.int .i64 0, .int .i64 0, .int .i64 192, .int .i64 224, .int .i64 240] 212)).cell? ⟨wx.heap.size, n, none⟩ = some (.int .i64 L) := by
  intro wx
  rw [World.cell?_alloc_new, <- hL]
  have : n = 1 \/ n = 2 \/ n = 3 \/ n = 4 := by omega
  rcases this with rfl | rfl | rfl | rfl <;> rfl
 have HS : Hid (sumTo b 1 = (c0.toNat : Int) - L) := by
  exact hid (by rw [sumTo_one b (by omega), hc, hn, hL])
 rw [hn] at hb1 hb4 ⊢
 have HN := hid hn
 clear hn hL hc
 go_enter Tryz.func92, Tryz.ntmps92
 go_wp2_with fail
 have hcw := hcell w
 clear hcell
 have hp : p < w.heap.size := World.block_lt_of_cell? _ _ hc0
 have hc0' : ∀ o', (w.alloc o').cell? ⟨p, o, none⟩ = some (.int .u8 (c0.toNat : Int)) := fun o' => by rw [World.cell?_alloc_lt _ _ _ hp]; exact hc0
 go_quiet (fail)
 clear hcw
 go_wp2_with fail
 go_loop [4, 5] (fun r i => ∃ (k : Nat) (acc : Int), 1 <= k /\ k <= n /\ i = .int .i64 k /\ r = .int .i64 acc /\ (-100000000 <= acc /\ acc <= 100000000 /\ (k = 1 -> -256 <= acc /\ acc <= 256) /\ (k = 2 -> -17000 <= acc /\ acc <= 17000) /\ (k = 3 -> -1100000 <= acc /\ acc <= 1100000)) /\ Hid (sumTo b k = acc)) (fun _ i => n - (intOf i).toNat)
 case atStart => exact ⟨1, (c0.toNat : Int) - L, Nat.le_refl _, hb1, rfl, rfl, by omega, HS⟩
 case round =>
  obtain ⟨k, acc, hk1, hkn, rfl, rfl, hacc, HT⟩ := hrel
  by_cases hlt : k < n
  ·have hkl : k < b.length := by rw [HN.out]; exact hlt
   have hc := (H1.out.get (j := k) (by simp; exact hkl))
   rw [u8_map _ _ hkl] at hc
   have hbk : (b[k].toNat : Int) < 256 := by have := b[k].toNat_lt; omega
   have hak : -1100000 <= acc /\ acc <= 1100000 := by omega
   have hcw : ∀ o', (w.alloc o').cell? ⟨p, o + k, none⟩ = some (.int .u8 (b[k].toNat : Int)) := fun o' => by rw [World.cell?_alloc_lt _ _ _ hp]; exact hc
   go_wp2_with fail
   go_round
   case rel => exact ⟨k + 1, acc * 64 + (b[k].toNat : Int) - 128, by omega, by omega, by go_num, rfl, by omega, hid (by rw [sumTo_succ b k hk1 hkl, HT.out])⟩
   case measure => simp [intOf]; omega
  ·obtain rfl : k = n := by omega
   have HV : Hid (sumV b = acc) := hid (by rw [<- sumTo_all, HN.out, HT.out])
   clear HT HS
   cases hs : scal acc with
   | false =>
    have HE := hid (guess_no HV.out (by rw [hs]; rintro ⟨h, _⟩; cases h))
    go_wp2_with (go_at_call 137; refine (SCAL.out acc _).mono ?_; rintro e w1 ⟨rfl, rfl⟩)
    go_quiet (fail)
    go_wp2_with fail
    go_ret
    exact ⟨ret_i64 HE.out.symm, gu_drewN (gu_drewN ((Below.refl _ _).alloc (Nat.le_refl _) _) _) _⟩
   | true =>
    have hsc := scal_nonneg hs
    have hlen : 0 < (bytesOf acc).length := by rw [bytesOf_len]; split; omega; split; omega; split <;> omega
    obtain ⟨q, hbe⟩ : ∃ q, (bytesU acc == b) = q := ⟨_, rfl⟩
    have HE : Hid (guessV b = if q then acc else -1) := by
     cases q with
     | true => exact hid (guess_yes HV.out hs (by simpa using hbe))
     | false => exact hid (guess_no HV.out (by rintro ⟨_, h⟩; rw [h] at hbe; simp at hbe))
    have CV := hid (fun (wx : World) (h : At wx (some ⟨p, o, none⟩) (b.map U8)) => conv_at (P := Tryz.prog) wx 35 9 5 (some ⟨p, o, none⟩) cap k b HN.out (by omega) Tryz.underlying35 Tryz.underlying5 Tryz.underlying9 h)
    have CW := hid (fun (wx : World) (ad : Addr) (c : Nat) (h : At wx (some ad) ((bytesOf acc).map (Value.int .u8))) => conv_at (P := Tryz.prog) wx 35 9 5 (some ad) c (bytesOf acc).length (bytesU acc) (bytesU_length acc) hlen Tryz.underlying35 Tryz.underlying5 Tryz.underlying9 (by rw [<- bytesU_cells]; exact h))
    go_wp2_with (go_at_call 137; refine (SCAL.out acc _).mono ?_; rintro e w1 ⟨rfl, rfl⟩)
    obtain ⟨W, hW⟩ : ∃ W, w.alloc (.cells #[.int .i64 0, .int .i64 0, .int .i64 192, .int .i64 224, .int .i64 240] 212) = W := ⟨_, rfl⟩
    have HB : Hid (Below w.heap.size w W) := hid (hW ▸ (Below.refl _ _).alloc (Nat.le_refl _) _)
    rw [hW]
    clear hW hc0' hc0
    have hsz : w.heap.size <= W.heap.size := HB.out.size
    have c0' : ∀ n, (convert 35 9 (.slice (some ⟨p, o, none⟩) k cap)).run Tryz.prog (W.drewN n) = .ok (.string (B b)) (W.drewN n) := fun n => CV.out _ ((H1.out.below HB.out).drewN n)
    have c0'' : ∀ n, (convert 35 9 (.slice (some ⟨p, o, none⟩) k cap)).run Tryz.prog (W.drewN n).drew = .ok (.string (B b)) (W.drewN n).drew := fun n => CV.out _ ((H1.out.below HB.out).drewN (n + 1))
    go_region_with (go_at_call 138; refine (BYT.out acc _ hsc.1 hsc.2.1).mono ?_; rintro e w5 ⟨c5, rfl, hA5, hb5⟩; have k1 := CW.out w5 ⟨W.heap.size, 0, none⟩ c5 hA5; have k2 := CV.out w5 (((H1.out.below HB.out).drewN _).below hb5))
    all_goals
     cases q with
     | true =>
      go_wp2_with fail
      go_ret
      exact ⟨ret_i64 HE.out.symm, by first | exact guess_below HB.out ‹_› | exact gu_drewN HB.out _⟩
     | false =>
      go_wp2_with fail
      go_ret
      exact ⟨ret_i64 HE.out.symm, by first | exact guess_below HB.out ‹_› | exact gu_drewN HB.out _⟩
end Go.Proofs.YtdhmpakhdhdebaaGreatDoor
namespace Go.Proofs.YtdhmpakhdhdebaaGreatDoor
open Go.Lib (hid)
open Go.RowKit
set_option maxRecDepth 100000
def pairI (r : Int × Nat) : Value := .tuple #[.int .i64 r.1, .int .i64 (r.2 : Int)]
theorem pairI_mk {r : Int × Nat} {v : Int} {n : Nat} (h : r = (v, n)) : Ending.returned (.tuple #[.int .i64 v, .int .i64 (n : Int)]) = .returned (pairI r) := by rw [h]; rfl
theorem pairI_0 {r : Int × Nat} (h : r = (0, 0)) : Ending.returned (.tuple #[.int .i64 0, .int .i64 0]) = .returned (pairI r) := by rw [h]; rfl
theorem At.drew {w : World} {a : Option Addr} {xs : List Value} (h : At w a xs) : At w.drew a xs := h
theorem nextFrom_in {r : List UInt8} {k : Nat} (hk : k <= 4) (h : k <= r.length) : nextFrom r (5 - k) k = if 0 <= guessV (r.take k) then (guessV (r.take k), k) else nextFrom r (5 - (k + 1)) (k + 1) := by
 rw [show 5 - k = (5 - (k + 1)) + 1 by omega, nextFrom, if_pos h]
theorem nextFrom_out {r : List UInt8} {k : Nat} (h : 4 < k \/ r.length < k) (hk : k <= 5) : nextFrom r (5 - k) k = (0, 0) := by
 by_cases h5 : k = 5
 ·subst h5; rfl
 ·rw [show 5 - k = (5 - (k + 1)) + 1 by omega, nextFrom, if_neg (by omega)]
set_option maxHeartbeats 1600000 in
theorem refNext_l (l : List UInt8) (i : Int) (w : World) (hl : l.length <= 4611686018427387904) (hi : -9223372036854775808 <= i /\ i <= 9223372036854775807) :
  Calls Tryz.prog 64 #[.string (B l), .int .i64 i] w fun e w' => e = .returned (pairI (nextAt l i)) /\ Below w.heap.size w w' := by
 have GUE := hid guess_l
 by_cases h0 : i < 0
 ·have HF := hid (nextAt_out (l := l) (.inl h0))
  go_enter Tryz.func64, Tryz.ntmps64
  go_wp2_with fail
  go_ret2
  exact ⟨pairI_0 HF.out, Below.refl _ _⟩
 obtain ⟨n, rfl⟩ := Int.eq_ofNat_of_zero_le (Int.not_lt.1 h0)
 by_cases h1 : l.length <= n
 ·have HF := hid (nextAt_out (l := l) (i := (n : Int)) (.inr (by omega)))
  go_enter Tryz.func64, Tryz.ntmps64
  go_wp2_with fail
  go_ret2
  exact ⟨pairI_0 HF.out, Below.refl _ _⟩
 have hn : n < l.length := by omega
 have HF : Hid (nextAt l n = nextFrom (l.drop n) 4 1) := hid (by unfold nextAt; rw [if_neg (by omega), Int.toNat_natCast, <- next_eq]; rfl)
 have hd0 : decide ((n : Int) < 0) = false := by simp
 have hd1 : decide (l.length <= n) = false := by simp; omega
 clear h0 h1
 go_enter Tryz.func64, Tryz.ntmps64
 go_wp2_with fail
 go_loopw [6] (fun i wr => ∃ k : Nat, 1 <= k /\ k <= 5 /\ i = .int .i64 k /\ Hid (nextAt l n = nextFrom (l.drop n) (5 - k) k) /\ Below w.heap.size w wr) (fun i _ => 5 - (intOf i).toNat)
 case atStart => exact ⟨1, Nat.le_refl _, by omega, rfl, HF, Below.refl _ _⟩
 case round =>
  obtain ⟨k, hk1, hk5, rfl, HK, hb⟩ := hrel
  by_cases hin : k <= 4 /\ k <= l.length - n
  ·obtain ⟨hk4, hkl⟩ := hin
   have hstep := nextFrom_in (r := l.drop n) hk4 (by simp; omega)
   obtain ⟨m, hm⟩ : ∃ m, (l.drop n).take k = m := ⟨_, rfl⟩
   have hml : m.length = k := by rw [<- hm]; simp; omega
   rw [hm] at hstep
   have hki : (k : Int) <= (l.length : Int) - (n : Int) := by omega
   have hsub : n + k - n = k := by omega
   have hnk : n + k <= l.length := by omega
   have hconv := run_bytes_of_string (P := Tryz.prog) wr 9 35 5 (B m) Tryz.underlying9 Tryz.underlying35 Tryz.underlying5
   obtain ⟨cap, hcap⟩ : ∃ cap, grownCap wr (B m).size 0 5 = cap := ⟨_, rfl⟩
   rw [hcap, B_size, hml] at hconv
   have hrow := rowAt_bytes wr (B m) cap 5
   obtain ⟨C, hC⟩ : ∃ C, bytesRow (B m) cap = C := ⟨_, rfl⟩
   rw [hC] at hconv hrow
   rw [B_toList] at hrow
   have HG := hid (fun (wx : World) (h : At wx (some ⟨wr.heap.size, 0, none⟩) (m.map U8)) => GUE.out m (some ⟨wr.heap.size, 0, none⟩) cap wx (by omega) (by omega) h)
   rw [hml] at HG
   have HRW := hid hrow.at
   have HS := hid (HK.out.trans hstep)
   clear hcap hC hrow hstep HK hml
   obtain ⟨q, hq⟩ : ∃ q, guessV m = q := ⟨_, rfl⟩
   have HQ := hid hq
   have HG2 := hid (fun (wx : World) (h : At wx (some ⟨wr.heap.size, 0, none⟩) (m.map U8)) => hq ▸ HG.out wx h)
   clear hq HG
   by_cases hq0 : 0 <= q
   ·have HE : Hid (nextAt l n = (q, k)) := hid (by rw [HS.out, HQ.out, if_pos hq0])
    go_wp2_with (go_at_call 92; refine (HG2.out _ HRW.out.drew).mono ?_; rintro e w1 ⟨rfl, hb1⟩)
    go_ret2
    exact ⟨pairI_mk HE.out, ((hb.alloc hb.size _).drew).trans (hb1.mono (by have := hb.size; simp; omega))⟩
   ·have hk5' : k + 1 <= 5 := by omega
    have HE : Hid (nextAt l n = nextFrom (l.drop n) (5 - (k + 1)) (k + 1)) := hid (by rw [HS.out, HQ.out, if_neg hq0])
    go_wp2_with (go_at_call 92; refine (HG2.out _ HRW.out.drew).mono ?_; rintro e w1 ⟨rfl, hb1⟩)
    go_roundw
    case rel => exact ⟨k + 1, by omega, hk5', by go_num, HE, ((hb.alloc hb.size _).drew).trans (hb1.mono (by have := hb.size; simp; omega))⟩
    case measure => simp [intOf]; omega
  ·have HE : Hid (nextAt l n = (0, 0)) := hid (by rw [HK.out, nextFrom_out (by simp; omega) hk5])
   clear HK
   by_cases hk4 : k <= 4
   ·have hkl : ¬ (k : Int) <= (l.length : Int) - (n : Int) := by omega
    go_wp2_with fail
    go_ret2
    exact ⟨pairI_0 HE.out, hb⟩
   ·go_wp2_with fail
    go_ret2
    exact ⟨pairI_0 HE.out, hb⟩
end Go.Proofs.YtdhmpakhdhdebaaGreatDoor
namespace Go.Proofs.YtdhmpakhdhdebaaGreatDoor
open Go.Lib (hid)
open Go.RowKit
set_option maxRecDepth 100000
set_option maxHeartbeats 1600000 in
theorem run_labels (l : List UInt8) (i : Int) (w : World) (hl : l.length <= 4611686018427387904) (hi : -9223372036854775808 <= i /\ i <= 9223372036854775807) (hT : TabAt w) :
  Calls Tryz.prog 143 #[.string (B l), .int .i64 i, .func (Fn.func 144) #[] #[]] w fun e w' => e = .returned (.int .i64 (runF labelB l i : Nat)) /\ w' = w := by
 have NEXT := hid (fun (j : Int) (hj : -9223372036854775808 <= j /\ j <= 9223372036854775807) (v : Int) (n : Nat) (h : nextAt l j = (v, n)) => h ▸ next_l l j w hl hj)
 have FOL := hid (fun r => follow_any r w hT)
 have FST := hid (fun r => labels_any r w hT)
 clear hT
 obtain ⟨v, n, hp⟩ : ∃ v n, nextAt l i = (v, n) := ⟨_, _, rfl⟩
 have N1 := hid (NEXT.out i hi v n hp)
 by_cases hn : n = 0
 ·have HF : Hid (runF labelB l i = 0) := hid (runF_no hp (.inl hn))
  have e0 : ((n : Int) == 0) = true := by rw [hn]; rfl
  clear hp hn
  go_enter Tryz.func143, Tryz.ntmps143
  go_wp2_with (go_at_call 40; refine N1.out.mono ?_; rintro e w1 ⟨rfl, rfl⟩; unfold pairV)
  go_ret
  exact ⟨by rw [HF.out]; rfl, rfl⟩
 have e0 : ((n : Int) == 0) = false := beq_eq_false_iff_ne.2 (by omega)
 have hb := nextAt_bound hp hn
 cases hf : labelB v with
 | false =>
  have HF : Hid (runF labelB l i = 0) := hid (runF_no hp (.inr hf))
  clear hp hn hb
  go_enter Tryz.func143, Tryz.ntmps143
  go_wp2_with (first | (go_at_call 40; refine N1.out.mono ?_; rintro e w1 ⟨rfl, rfl⟩; unfold pairV) | (go_at_call 144; refine (FST.out v).mono ?_; rintro e w1 ⟨rfl, rfl⟩))
  go_ret
  exact ⟨by rw [HF.out]; rfl, rfl⟩
 | true =>
  obtain ⟨a, rfl⟩ := Int.eq_ofNat_of_zero_le hb.1
  have HF : Hid (runF labelB l a = tailF l (a + n) (a + n) - a) := hid (runF_go hp (by rw [hf]; rintro (h | h); exact hn h; cases h))
  have hb2 : a + n <= l.length := by omega
  have hge := tailF_ge l _ (a + n) (a + n) (Nat.le_refl _) (Nat.le_refl _)
  have HG := hid hge
  clear hp hb hge
  go_enter Tryz.func143, Tryz.ntmps143
  go_wp2_with (first | (go_at_call 40; refine N1.out.mono ?_; rintro e w1 ⟨rfl, rfl⟩; unfold pairV) | (go_at_call 144; refine (FST.out v).mono ?_; rintro e w1 ⟨rfl, rfl⟩))
  go_loop [7, 8, 9, 10] (fun _ _ e i => ∃ en j : Nat, e = .int .i64 en /\ i = .int .i64 j /\ en <= j /\ j <= l.length /\ Hid (tailF l (a + n) (a + n) = tailF l j en)) (fun _ _ _ i => l.length - (intOf i).toNat)
  case atStart => exact ⟨a + n, a + n, by go_num, by go_num, Nat.le_refl _, hb2, rfl⟩
  case round =>
   obtain ⟨en, j, rfl, rfl, hej, hjl, HT⟩ := hrel
   obtain ⟨x, m, hq⟩ : ∃ x m, nextAt l (j : Int) = (x, m) := ⟨_, _, rfl⟩
   have N2 := hid (NEXT.out j (by omega) x m hq)
   by_cases hm : m = 0
   ·have HE : Hid (runF labelB l a = en - a) := hid (by rw [HF.out, HT.out, tailF_stop hq (.inl hm)])
    have m0 : ((m : Int) == 0) = true := by rw [hm]; rfl
    have hen : a <= en := by have h1 := HG.out; rw [HT.out, tailF_stop hq (.inl hm)] at h1; omega
    clear hq hm HT
    go_wp2_with (go_at_call 40; refine N2.out.mono ?_; rintro e w1 ⟨rfl, rfl⟩; unfold pairV)
    go_ret
    exact ⟨ret_i64 (by rw [HE.out]; omega), rfl⟩
   have m0 : ((m : Int) == 0) = false := beq_eq_false_iff_ne.2 (by omega)
   have hmb := nextAt_bound hq hm
   have hjm : j + m <= l.length := by omega
   by_cases hx : x = 46
   ·have x0 : (x != 46) = false := by rw [hx]; rfl
    have HT2 : Hid (tailF l (a + n) (a + n) = tailF l (j + m) en) := hid (by rw [HT.out, tailF_go hq (by rintro (h | h); exact hm h; exact h.1 hx), if_pos hx])
    clear hq hmb hx HT
    go_wp2_with (go_at_call 40; refine N2.out.mono ?_; rintro e w1 ⟨rfl, rfl⟩; unfold pairV)
    go_round
    case rel => exact ⟨en, j + m, rfl, by go_num, by omega, hjm, HT2⟩
    case measure => simp [intOf]; omega
   ·have x0 : (x != 46) = true := by rw [bne_iff_ne]; exact hx
    cases hfo : followB x with
    | false =>
     have HE : Hid (runF labelB l a = en - a) := hid (by rw [HF.out, HT.out, tailF_stop hq (.inr ⟨hx, hfo⟩)])
     have hen : a <= en := by have h1 := HG.out; rw [HT.out, tailF_stop hq (.inr ⟨hx, hfo⟩)] at h1; omega
     clear hq hmb hx HT hm
     go_wp2_with (first | (go_at_call 40; refine N2.out.mono ?_; rintro e w1 ⟨rfl, rfl⟩; unfold pairV) | (go_at_call 172; refine (FOL.out x).mono ?_; rintro e w1 ⟨rfl, rfl⟩))
     go_ret
     exact ⟨ret_i64 (by rw [HE.out]; omega), rfl⟩
    | true =>
     have HT2 : Hid (tailF l (a + n) (a + n) = tailF l (j + m) (j + m)) := hid (by rw [HT.out, tailF_go hq (by rw [hfo]; rintro (h | h); exact hm h; cases h.2), if_neg hx])
     clear hq hmb hx HT
     go_wp2_with (first | (go_at_call 40; refine N2.out.mono ?_; rintro e w1 ⟨rfl, rfl⟩; unfold pairV) | (go_at_call 172; refine (FOL.out x).mono ?_; rintro e w1 ⟨rfl, rfl⟩))
     go_round
     case rel => exact ⟨j + m, j + m, by go_num, by go_num, Nat.le_refl _, hjm, HT2⟩
     case measure => simp [intOf]; omega
set_option maxHeartbeats 1600000 in
theorem run_base (l : List UInt8) (i : Int) (w : World) (hl : l.length <= 4611686018427387904) (hi : -9223372036854775808 <= i /\ i <= 9223372036854775807) (hT : TabAt w) :
  Calls Tryz.prog 143 #[.string (B l), .int .i64 i, .func (Fn.func 154) #[] #[]] w fun e w' => e = .returned (.int .i64 (runF baseB l i : Nat)) /\ w' = w := by
 have NEXT := hid (fun (j : Int) (hj : -9223372036854775808 <= j /\ j <= 9223372036854775807) (v : Int) (n : Nat) (h : nextAt l j = (v, n)) => h ▸ next_l l j w hl hj)
 have FOL := hid (fun r => follow_any r w hT)
 have FST := hid (fun r => base_any r w hT)
 clear hT
 obtain ⟨v, n, hp⟩ : ∃ v n, nextAt l i = (v, n) := ⟨_, _, rfl⟩
 have N1 := hid (NEXT.out i hi v n hp)
 by_cases hn : n = 0
 ·have HF : Hid (runF baseB l i = 0) := hid (runF_no hp (.inl hn))
  have e0 : ((n : Int) == 0) = true := by rw [hn]; rfl
  clear hp hn
  go_enter Tryz.func143, Tryz.ntmps143
  go_wp2_with (go_at_call 40; refine N1.out.mono ?_; rintro e w1 ⟨rfl, rfl⟩; unfold pairV)
  go_ret
  exact ⟨by rw [HF.out]; rfl, rfl⟩
 have e0 : ((n : Int) == 0) = false := beq_eq_false_iff_ne.2 (by omega)
 have hb := nextAt_bound hp hn
 cases hf : baseB v with
 | false =>
  have HF : Hid (runF baseB l i = 0) := hid (runF_no hp (.inr hf))
  clear hp hn hb
  go_enter Tryz.func143, Tryz.ntmps143
  go_wp2_with (first | (go_at_call 40; refine N1.out.mono ?_; rintro e w1 ⟨rfl, rfl⟩; unfold pairV) | (go_at_call 154; refine (FST.out v).mono ?_; rintro e w1 ⟨rfl, rfl⟩))
  go_ret
  exact ⟨by rw [HF.out]; rfl, rfl⟩
 | true =>
  obtain ⟨a, rfl⟩ := Int.eq_ofNat_of_zero_le hb.1
  have HF : Hid (runF baseB l a = tailF l (a + n) (a + n) - a) := hid (runF_go hp (by rw [hf]; rintro (h | h); exact hn h; cases h))
  have hb2 : a + n <= l.length := by omega
  have hge := tailF_ge l _ (a + n) (a + n) (Nat.le_refl _) (Nat.le_refl _)
  have HG := hid hge
  clear hp hb hge
  go_enter Tryz.func143, Tryz.ntmps143
  go_wp2_with (first | (go_at_call 40; refine N1.out.mono ?_; rintro e w1 ⟨rfl, rfl⟩; unfold pairV) | (go_at_call 154; refine (FST.out v).mono ?_; rintro e w1 ⟨rfl, rfl⟩))
  go_loop [7, 8, 9, 10] (fun _ _ e i => ∃ en j : Nat, e = .int .i64 en /\ i = .int .i64 j /\ en <= j /\ j <= l.length /\ Hid (tailF l (a + n) (a + n) = tailF l j en)) (fun _ _ _ i => l.length - (intOf i).toNat)
  case atStart => exact ⟨a + n, a + n, by go_num, by go_num, Nat.le_refl _, hb2, rfl⟩
  case round =>
   obtain ⟨en, j, rfl, rfl, hej, hjl, HT⟩ := hrel
   obtain ⟨x, m, hq⟩ : ∃ x m, nextAt l (j : Int) = (x, m) := ⟨_, _, rfl⟩
   have N2 := hid (NEXT.out j (by omega) x m hq)
   by_cases hm : m = 0
   ·have HE : Hid (runF baseB l a = en - a) := hid (by rw [HF.out, HT.out, tailF_stop hq (.inl hm)])
    have m0 : ((m : Int) == 0) = true := by rw [hm]; rfl
    have hen : a <= en := by have h1 := HG.out; rw [HT.out, tailF_stop hq (.inl hm)] at h1; omega
    clear hq hm HT
    go_wp2_with (go_at_call 40; refine N2.out.mono ?_; rintro e w1 ⟨rfl, rfl⟩; unfold pairV)
    go_ret
    exact ⟨ret_i64 (by rw [HE.out]; omega), rfl⟩
   have m0 : ((m : Int) == 0) = false := beq_eq_false_iff_ne.2 (by omega)
   have hmb := nextAt_bound hq hm
   have hjm : j + m <= l.length := by omega
   by_cases hx : x = 46
   ·have x0 : (x != 46) = false := by rw [hx]; rfl
    have HT2 : Hid (tailF l (a + n) (a + n) = tailF l (j + m) en) := hid (by rw [HT.out, tailF_go hq (by rintro (h | h); exact hm h; exact h.1 hx), if_pos hx])
    clear hq hmb hx HT
    go_wp2_with (go_at_call 40; refine N2.out.mono ?_; rintro e w1 ⟨rfl, rfl⟩; unfold pairV)
    go_round
    case rel => exact ⟨en, j + m, rfl, by go_num, by omega, hjm, HT2⟩
    case measure => simp [intOf]; omega
   ·have x0 : (x != 46) = true := by rw [bne_iff_ne]; exact hx
    cases hfo : followB x with
    | false =>
     have HE : Hid (runF baseB l a = en - a) := hid (by rw [HF.out, HT.out, tailF_stop hq (.inr ⟨hx, hfo⟩)])
     have hen : a <= en := by have h1 := HG.out; rw [HT.out, tailF_stop hq (.inr ⟨hx, hfo⟩)] at h1; omega
     clear hq hmb hx HT hm
     go_wp2_with (first | (go_at_call 40; refine N2.out.mono ?_; rintro e w1 ⟨rfl, rfl⟩; unfold pairV) | (go_at_call 172; refine (FOL.out x).mono ?_; rintro e w1 ⟨rfl, rfl⟩))
     go_ret
     exact ⟨ret_i64 (by rw [HE.out]; omega), rfl⟩
    | true =>
     have HT2 : Hid (tailF l (a + n) (a + n) = tailF l (j + m) (j + m)) := hid (by rw [HT.out, tailF_go hq (by rw [hfo]; rintro (h | h); exact hm h; cases h.2), if_neg hx])
     clear hq hmb hx HT
     go_wp2_with (first | (go_at_call 40; refine N2.out.mono ?_; rintro e w1 ⟨rfl, rfl⟩; unfold pairV) | (go_at_call 172; refine (FOL.out x).mono ?_; rintro e w1 ⟨rfl, rfl⟩))
     go_round
     case rel => exact ⟨j + m, j + m, by go_num, by go_num, Nat.le_refl _, hjm, HT2⟩
     case measure => simp [intOf]; omega
theorem labelAt_l (l : List UInt8) (i : Int) (w : World) (hl : l.length <= 4611686018427387904) (hi : -9223372036854775808 <= i /\ i <= 9223372036854775807) (hT : TabAt w) :
  Calls Tryz.prog 98 #[.string (B l), .int .i64 i] w fun e w' => e = .returned (.int .i64 (runF labelB l i : Nat)) /\ w' = w := by
 have R := hid (run_labels l i w hl hi hT)
 clear hT
 go_enter Tryz.func98, Tryz.ntmps98
 go_wp2_with (go_at_call 143; refine R.out.mono ?_; rintro e w1 ⟨rfl, rfl⟩)
 go_ret
 exact ⟨rfl, rfl⟩
end Go.Proofs.YtdhmpakhdhdebaaGreatDoor
namespace Go.Proofs.YtdhmpakhdhdebaaGreatDoor
open Go.Lib (hid)
open Go.RowKit
set_option maxRecDepth 100000
theorem builderString_l (B_ b : Nat) (l : List UInt8) (w : World) (h : BuildsB w B_ b l) (hBw : B_ <= w.heap.size) :
  Calls Tryz.prog 50 #[.pointer (some ⟨b, 0, none⟩)] w fun e w' => e = .returned (.string (B l)) /\ Below B_ w w' :=
 Tryz.Builder_String_any B_ b l w h hBw
theorem cat92 (m : List UInt8) : (⟨#[92]⟩ : ByteArray) ++ B m = B (92 :: m) := B_append [92] m
attribute [go_sem] cat92
end Go.Proofs.YtdhmpakhdhdebaaGreatDoor
namespace Go.Proofs.YtdhmpakhdhdebaaGreatDoor
open Go.Lib (hid)
open Go.RowKit
set_option maxRecDepth 100000
set_option maxHeartbeats 1600000 in
theorem refLabelAt_l (l : List UInt8) (i : Int) (w : World) (hl : l.length <= 4611686018427387904) (hi : -9223372036854775808 <= i /\ i <= 9223372036854775807) :
  Calls Tryz.prog 165 #[.string (B l), .int .i64 i] w fun e w' => e = .returned (.int .i64 (runF labelB l i : Nat)) /\ Below w.heap.size w w' := by
 have NEXT := hid (fun (j : Int) (hj : -9223372036854775808 <= j /\ j <= 9223372036854775807) (v : Int) (n : Nat) (h : nextAt l j = (v, n)) (w : World) => h ▸ refNext_l l j w hl hj)
 have ST := hid refStart_any; have FOL := hid refFollow_any; have DIG := hid refDigit_any
 by_cases h0 : i < 0
 ·have HE : Hid (runF labelB l i = 0) := hid (runF_no (nextAt_out (.inl h0)) (.inl rfl))
  go_enter Tryz.func165, Tryz.ntmps165
  go_wp2_with fail
  go_loop [5, 7] (fun b v => b = .int .i64 0 /\ v = .int .i64 i) (fun _ _ => 0)
  case atStart => exact ⟨rfl, rfl⟩
  case round =>
   obtain ⟨rfl, rfl⟩ := hrel
   go_wp2_with fail
   go_ret
   exact ⟨ret_i64 (by rw [HE.out]; rfl), Below.refl _ _⟩
 obtain ⟨a, rfl⟩ := Int.eq_ofNat_of_zero_le (Int.not_lt.1 h0)
 by_cases h1 : l.length <= a
 ·have HE : Hid (runF labelB l a = 0) := hid (runF_no (nextAt_out (.inr (by omega))) (.inl rfl))
  go_enter Tryz.func165, Tryz.ntmps165
  go_wp2_with fail
  go_loop [5, 7] (fun b v => b = .int .i64 0 /\ v = .int .i64 a) (fun _ _ => 0)
  case atStart => exact ⟨rfl, rfl⟩
  case round =>
   obtain ⟨rfl, rfl⟩ := hrel
   go_wp2_with fail
   go_ret
   exact ⟨ret_i64 (by rw [HE.out]; rfl), Below.refl _ _⟩
 have hal : a < l.length := by omega
 clear h0 h1
 go_enter Tryz.func165, Tryz.ntmps165
 go_wp2_with fail
 go_loopw [5, 6, 7] (fun b f i wr => ∃ (fb : Bool) (j best : Nat), b = .int .i64 best /\ f = .bool fb /\ i = .int .i64 j /\ a <= j /\ j <= l.length /\ best <= l.length /\ Hid (fb = true /\ j = a /\ best = 0 \/ fb = false /\ a + best <= j /\ runF labelB l a = tailF l j (a + best) - a) /\ Below w.heap.size w wr) (fun _ _ i _ => l.length - (intOf i).toNat)
 case atStart => exact ⟨true, a, 0, rfl, rfl, rfl, Nat.le_refl _, by omega, Nat.zero_le _, .inl ⟨rfl, rfl, rfl⟩, Below.refl _ _⟩
 case round =>
  obtain ⟨fb, j, best, rfl, rfl, rfl, haj, hjl, hbl, HT, hb⟩ := hrel
  by_cases hlt : j < l.length
  ·obtain ⟨x, m, hq⟩ : ∃ x m, nextAt l (j : Int) = (x, m) := ⟨_, _, rfl⟩
   have N2 := hid (NEXT.out j (by omega) x m hq)
   by_cases hm : m = 0
   ·have HE : Hid (runF labelB l a = best) := by
     refine hid ?_
     rcases HT.out with ⟨_, e1, e2⟩ | ⟨_, _, e2⟩
     ·subst e1; rw [runF_no hq (.inl hm), e2]
     ·rw [e2, tailF_stop hq (.inl hm)]; omega
    have m0 : ((m : Int) == 0) = true := by rw [hm]; rfl
    clear hq hm HT
    go_wp2_with (first | (go_at_call 64; refine (N2.out _).mono ?_; rintro e w1 ⟨rfl, hx1⟩; replace hb := hb.trans (hx1.mono hb.size); clear hx1; unfold pairI) | (go_at_call 182; refine (ST.out x _).mono ?_; rintro e w2 ⟨rfl, hx1⟩; replace hb := hb.trans (hx1.mono hb.size); clear hx1) | (go_at_call 183; refine (DIG.out x _).mono ?_; rintro e w3 ⟨rfl, rfl⟩) | (go_at_call 184; refine (FOL.out x _).mono ?_; rintro e w4 ⟨rfl, hx1⟩; replace hb := hb.trans (hx1.mono hb.size); clear hx1))
    go_ret
    exact ⟨ret_i64 (by rw [HE.out]), hb⟩
   have m0 : ((m : Int) == 0) = false := beq_eq_false_iff_ne.2 (by omega)
   have hmb := nextAt_bound hq hm
   have hjm : j + m <= l.length := by omega
   have hjm1 : j < j + m := by omega
   cases fb with
   | true =>
    have hja : j = a /\ best = 0 := by rcases HT.out with h | h; exact h.2; cases h.1
    obtain ⟨rfl, rfl⟩ := hja
    cases hlab : labelB x with
    | false =>
     have HE : Hid (runF labelB l j = 0) := hid (runF_no hq (.inr hlab))
     have hs : startB x = false /\ digitB x = false := by unfold labelB at hlab; simpa using hlab
     obtain ⟨hs1, hs2⟩ := hs
     clear hq hm HT hmb hlab
     go_wp2_with (first | (go_at_call 64; refine (N2.out _).mono ?_; rintro e w1 ⟨rfl, hx1⟩; replace hb := hb.trans (hx1.mono hb.size); clear hx1; unfold pairI) | (go_at_call 182; refine (ST.out x _).mono ?_; rintro e w2 ⟨rfl, hx1⟩; replace hb := hb.trans (hx1.mono hb.size); clear hx1) | (go_at_call 183; refine (DIG.out x _).mono ?_; rintro e w3 ⟨rfl, rfl⟩) | (go_at_call 184; refine (FOL.out x _).mono ?_; rintro e w4 ⟨rfl, hx1⟩; replace hb := hb.trans (hx1.mono hb.size); clear hx1))
     go_ret
     exact ⟨ret_i64 (by rw [HE.out]; rfl), hb⟩
    | true =>
     have hfo := label_follow hlab
     have hx0 := label_not_dot hlab
     have x0 : (x != 46) = true := by rw [bne_iff_ne]; exact hx0
     have HT2 : Hid (j + (j + m - j) <= j + m /\ runF labelB l j = tailF l (j + m) (j + (j + m - j)) - j) :=
      hid (⟨by omega, by rw [runF_go hq (by rw [hlab]; rintro (h | h); exact hm h; cases h), show j + (j + m - j) = j + m by omega]⟩)
     cases hs1 : startB x with
     | true =>
      clear hq hm HT hmb hlab hx0
      go_wp2_with (first | (go_at_call 64; refine (N2.out _).mono ?_; rintro e w1 ⟨rfl, hx1⟩; replace hb := hb.trans (hx1.mono hb.size); clear hx1; unfold pairI) | (go_at_call 182; refine (ST.out x _).mono ?_; rintro e w2 ⟨rfl, hx1⟩; replace hb := hb.trans (hx1.mono hb.size); clear hx1) | (go_at_call 183; refine (DIG.out x _).mono ?_; rintro e w3 ⟨rfl, rfl⟩) | (go_at_call 184; refine (FOL.out x _).mono ?_; rintro e w4 ⟨rfl, hx1⟩; replace hb := hb.trans (hx1.mono hb.size); clear hx1))
      go_roundw
      case rel => exact ⟨false, j + m, j + m - j, by go_num, rfl, by go_num, by omega, hjm, by omega, .inr ⟨rfl, HT2.out⟩, hb⟩
      case measure => simp [intOf]; omega
     | false =>
      have hs2 : digitB x = true := by unfold labelB at hlab; rw [hs1] at hlab; simpa using hlab
      clear hq hm HT hmb hlab hx0
      go_wp2_with (first | (go_at_call 64; refine (N2.out _).mono ?_; rintro e w1 ⟨rfl, hx1⟩; replace hb := hb.trans (hx1.mono hb.size); clear hx1; unfold pairI) | (go_at_call 182; refine (ST.out x _).mono ?_; rintro e w2 ⟨rfl, hx1⟩; replace hb := hb.trans (hx1.mono hb.size); clear hx1) | (go_at_call 183; refine (DIG.out x _).mono ?_; rintro e w3 ⟨rfl, rfl⟩) | (go_at_call 184; refine (FOL.out x _).mono ?_; rintro e w4 ⟨rfl, hx1⟩; replace hb := hb.trans (hx1.mono hb.size); clear hx1))
      go_roundw
      case rel => exact ⟨false, j + m, j + m - j, by go_num, rfl, by go_num, by omega, hjm, by omega, .inr ⟨rfl, HT2.out⟩, hb⟩
      case measure => simp [intOf]; omega
   | false =>
    have HT1 : Hid (a + best <= j /\ runF labelB l a = tailF l j (a + best) - a) := by rcases HT.out with h | h; cases h.1; exact hid h.2
    clear HT
    by_cases hx : x = 46
    ·have x0 : (x != 46) = false := by rw [hx]; rfl
     have hfo : followB x = false := by rw [hx]; decide
     have HT2 : Hid (a + best <= j + m /\ runF labelB l a = tailF l (j + m) (a + best) - a) :=
      hid (⟨by have := HT1.out.1; omega, by rw [HT1.out.2, tailF_go hq (by rintro (h | h); exact hm h; exact h.1 hx), if_pos hx]⟩)
     clear hq hm hmb hx HT1
     go_wp2_with (first | (go_at_call 64; refine (N2.out _).mono ?_; rintro e w1 ⟨rfl, hx1⟩; replace hb := hb.trans (hx1.mono hb.size); clear hx1; unfold pairI) | (go_at_call 182; refine (ST.out x _).mono ?_; rintro e w2 ⟨rfl, hx1⟩; replace hb := hb.trans (hx1.mono hb.size); clear hx1) | (go_at_call 183; refine (DIG.out x _).mono ?_; rintro e w3 ⟨rfl, rfl⟩) | (go_at_call 184; refine (FOL.out x _).mono ?_; rintro e w4 ⟨rfl, hx1⟩; replace hb := hb.trans (hx1.mono hb.size); clear hx1))
     go_roundw
     case rel => exact ⟨false, j + m, best, rfl, rfl, by go_num, by omega, hjm, hbl, .inr ⟨rfl, HT2.out⟩, hb⟩
     case measure => simp [intOf]; omega
    ·have x0 : (x != 46) = true := by rw [bne_iff_ne]; exact hx
     cases hfo : followB x with
     | false =>
      have HE : Hid (runF labelB l a = best) := hid (by rw [HT1.out.2, tailF_stop hq (.inr ⟨hx, hfo⟩)]; omega)
      clear hq hm hmb hx HT1
      go_wp2_with (first | (go_at_call 64; refine (N2.out _).mono ?_; rintro e w1 ⟨rfl, hx1⟩; replace hb := hb.trans (hx1.mono hb.size); clear hx1; unfold pairI) | (go_at_call 182; refine (ST.out x _).mono ?_; rintro e w2 ⟨rfl, hx1⟩; replace hb := hb.trans (hx1.mono hb.size); clear hx1) | (go_at_call 183; refine (DIG.out x _).mono ?_; rintro e w3 ⟨rfl, rfl⟩) | (go_at_call 184; refine (FOL.out x _).mono ?_; rintro e w4 ⟨rfl, hx1⟩; replace hb := hb.trans (hx1.mono hb.size); clear hx1))
      go_ret
      exact ⟨ret_i64 (by rw [HE.out]), hb⟩
     | true =>
      have HT2 : Hid (a + (j + m - a) <= j + m /\ runF labelB l a = tailF l (j + m) (a + (j + m - a)) - a) :=
       hid (⟨by omega, by rw [HT1.out.2, tailF_go hq (by rw [hfo]; rintro (h | h); exact hm h; cases h.2), if_neg hx, show a + (j + m - a) = j + m by omega]⟩)
      clear hq hm hmb hx HT1
      go_wp2_with (first | (go_at_call 64; refine (N2.out _).mono ?_; rintro e w1 ⟨rfl, hx1⟩; replace hb := hb.trans (hx1.mono hb.size); clear hx1; unfold pairI) | (go_at_call 182; refine (ST.out x _).mono ?_; rintro e w2 ⟨rfl, hx1⟩; replace hb := hb.trans (hx1.mono hb.size); clear hx1) | (go_at_call 183; refine (DIG.out x _).mono ?_; rintro e w3 ⟨rfl, rfl⟩) | (go_at_call 184; refine (FOL.out x _).mono ?_; rintro e w4 ⟨rfl, hx1⟩; replace hb := hb.trans (hx1.mono hb.size); clear hx1))
      go_roundw
      case rel => exact ⟨false, j + m, j + m - a, by go_num, rfl, by go_num, by omega, hjm, by omega, .inr ⟨rfl, HT2.out⟩, hb⟩
      case measure => simp [intOf]; omega
  ·obtain rfl : j = l.length := by omega
   have HE : Hid (runF labelB l a = best) := by
    refine hid ?_
    rcases HT.out with ⟨_, e1, e2⟩ | ⟨_, _, e2⟩
    ·omega
    ·rw [e2, tailF_stop (nextAt_out (.inr (Int.le_refl _))) (.inl rfl)]; omega
   clear HT
   go_wp2_with fail
   go_ret
   exact ⟨ret_i64 (by rw [HE.out]), hb⟩
end Go.Proofs.YtdhmpakhdhdebaaGreatDoor
namespace Go.Proofs.YtdhmpakhdhdebaaGreatDoor
open Go.Lib (hid)
open Go.RowKit
set_option maxRecDepth 100000
end Go.Proofs.YtdhmpakhdhdebaaGreatDoor
