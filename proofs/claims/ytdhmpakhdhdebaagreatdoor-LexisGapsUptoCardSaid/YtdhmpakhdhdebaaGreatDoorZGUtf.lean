/-
  utf.Next: the scalar at a place: contract. By an AI agent.
  The reference's Next: the scalar at a place, guessed and held against what would be written: contract. By an AI agent.
  The reference's Next: contract: it reads what the program's reads. By an AI agent.
  names.run and LabelAt, and the reference's LabelAt: contracts. By an AI agent.
-/
import Derived.Test.YtdhmpakhdhdebaaGreatDoorZGPlain
import Derived.Test.YtdhmpakhdhdebaaGreatDoorProg
import Derived.Outline
import Derived.Laws.BitsLemmas
import Derived.Deep.QuietTactic
import Derived.BigQuiet
import Derived.Deep.RegionWith
import Derived.WalkSpells
import Derived.Test.YtdhmpakhdhdebaaGreatDoorZChars
import Derived.Test.YtdhmpakhdhdebaaGreatDoorZGChars
import Derived.Test.YtdhmpakhdhdebaaGreatDoorZBuilder
namespace Go.Proofs.YtdhmpakhdhdebaaGreatDoor
open Go.RowKit
set_option maxRecDepth 100000
theorem and192 (d : UInt8) : bits .and .u8 (d.toNat : Int) 192 = (d.toNat : Int) / 64 * 64 := by
 have h : ∀ n < 256, bits .and .u8 ((n : Nat) : Int) 192 = ((n : Nat) : Int) / 64 * 64 := by decide +kernel
 exact h _ d.toNat_lt
theorem lead_any (c : UInt8) (w : World) : Calls Tryz.prog 61 #[.int .u8 (c.toNat : Int)] w fun e w' => e = .returned (.tuple #[.int .i64 (leadN c.toNat : Int), .int .i32 (leadV c.toNat)]) /\ w' = w := by
 have hc := c.toNat_lt
 have a31 := u8_and31 (x := (c.toNat : Int)) (by omega) (by omega)
 have a15 := u8_and15 (x := (c.toNat : Int)) (by omega) (by omega)
 have a7 := u8_and7 (x := (c.toNat : Int)) (by omega) (by omega)
 by_cases h1 : c.toNat < 128
 · have hf := lead_1 h1
   have HF := Lib.hid hf
   clear hf
   go_enter Tryz.func61, Tryz.ntmps61
   go_wp2
   go_ret2
   exact ⟨by rw [HF.out.1, HF.out.2]; rfl, rfl⟩
 by_cases h2 : c.toNat < 192
 · have hf := lead_0 (c := c.toNat) (.inl ⟨by omega, h2⟩)
   have hv : leadV c.toNat = 0 := by unfold leadV; rw [if_neg h1, if_pos h2]
   have HF := Lib.hid hf; have HV := Lib.hid hv
   clear hf hv
   go_enter Tryz.func61, Tryz.ntmps61
   go_wp2
   go_ret2
   exact ⟨by rw [HF.out, HV.out]; rfl, rfl⟩
 by_cases h3 : c.toNat < 224
 · have hf := lead_2 (c := c.toNat) ⟨by omega, h3⟩
   have HF := Lib.hid hf
   clear hf
   go_enter Tryz.func61, Tryz.ntmps61
   go_wp2
   go_ret2
   exact ⟨by rw [HF.out.1, HF.out.2]; rfl, rfl⟩
 by_cases h4 : c.toNat < 240
 · have hf := lead_3 (c := c.toNat) ⟨by omega, h4⟩
   have HF := Lib.hid hf
   clear hf
   go_enter Tryz.func61, Tryz.ntmps61
   go_wp2
   go_ret2
   exact ⟨by rw [HF.out.1, HF.out.2]; rfl, rfl⟩
 by_cases h5 : c.toNat < 248
 · have hf := lead_4 (c := c.toNat) ⟨by omega, h5⟩
   have HF := Lib.hid hf
   clear hf
   go_enter Tryz.func61, Tryz.ntmps61
   go_wp2
   go_ret2
   exact ⟨by rw [HF.out.1, HF.out.2]; rfl, rfl⟩
 have hf := lead_0 (c := c.toNat) (.inr (by omega))
 have hv : leadV c.toNat = 0 := by unfold leadV; rw [if_neg h1, if_neg h2, if_neg h3, if_neg h4, if_neg h5]
 have HF := Lib.hid hf; have HV := Lib.hid hv
 clear hf hv
 go_enter Tryz.func61, Tryz.ntmps61
 go_wp2
 go_ret2
 exact ⟨by rw [HF.out, HV.out]; rfl, rfl⟩
theorem least_any (n : Nat) (hn : n <= 4) (w : World) : Calls Tryz.prog 62 #[.int .i64 (n : Int)] w fun e w' => e = .returned (.int .i32 (leastOf n)) /\ w' = w := by
 have i0 : ∀ w, (Instr.index 180 (.agg #[.int .i32 0, .int .i32 0, .int .i32 128, .int .i32 2048, .int .i32 65536]) (.int .i64 0)).run Tryz.prog w = .ok (.int .i32 0) w := fun _ => by kernel_rfl
 have i1 : ∀ w, (Instr.index 180 (.agg #[.int .i32 0, .int .i32 0, .int .i32 128, .int .i32 2048, .int .i32 65536]) (.int .i64 1)).run Tryz.prog w = .ok (.int .i32 0) w := fun _ => by kernel_rfl
 have i2 : ∀ w, (Instr.index 180 (.agg #[.int .i32 0, .int .i32 0, .int .i32 128, .int .i32 2048, .int .i32 65536]) (.int .i64 2)).run Tryz.prog w = .ok (.int .i32 128) w := fun _ => by kernel_rfl
 have i3 : ∀ w, (Instr.index 180 (.agg #[.int .i32 0, .int .i32 0, .int .i32 128, .int .i32 2048, .int .i32 65536]) (.int .i64 3)).run Tryz.prog w = .ok (.int .i32 2048) w := fun _ => by kernel_rfl
 have i4 : ∀ w, (Instr.index 180 (.agg #[.int .i32 0, .int .i32 0, .int .i32 128, .int .i32 2048, .int .i32 65536]) (.int .i64 4)).run Tryz.prog w = .ok (.int .i32 65536) w := fun _ => by kernel_rfl
 have hc : n = 0 \/ n = 1 \/ n = 2 \/ n = 3 \/ n = 4 := by omega
 rcases hc with rfl | rfl | rfl | rfl | rfl
 all_goals
   go_enter Tryz.func62, Tryz.ntmps62
   go_wp2
   go_ret
   exact ⟨rfl, rfl⟩
theorem scalar_any (r : Int) (w : World) : Calls Tryz.prog 63 #[.int .i32 r] w fun e w' => e = .returned (.bool (scal r)) /\ w' = w := by
 by_cases h1 : 0 <= r
 · by_cases h2 : r <= 1114111
   · by_cases h3 : r < 55296
     · have HF := Lib.hid (scal_mk (r := r) ⟨h1, h2, .inl h3⟩)
       go_enter Tryz.func63, Tryz.ntmps63
       go_wp2
       go_ret
       exact ⟨by rw [HF.out]; rfl, rfl⟩
     · by_cases h4 : 57343 < r
       · have HF := Lib.hid (scal_mk (r := r) ⟨h1, h2, .inr h4⟩)
         go_enter Tryz.func63, Tryz.ntmps63
         go_wp2
         go_ret
         exact ⟨by rw [HF.out]; rfl, rfl⟩
       · have HF : Hid (scal r = false) := by
           refine Lib.hid ?_
           cases hs : scal r with
           | false => rfl
           | true => have := scal_nonneg hs; omega
         go_enter Tryz.func63, Tryz.ntmps63
         go_wp2
         go_ret
         exact ⟨by rw [HF.out]; rfl, rfl⟩
   · have HF : Hid (scal r = false) := by
       refine Lib.hid ?_
       cases hs : scal r with
       | false => rfl
       | true => have := scal_nonneg hs; omega
     go_enter Tryz.func63, Tryz.ntmps63
     go_wp2
     go_ret
     exact ⟨by rw [HF.out]; rfl, rfl⟩
 · have HF : Hid (scal r = false) := by
     refine Lib.hid ?_
     cases hs : scal r with
     | false => rfl
     | true => have := scal_nonneg hs; omega
   go_enter Tryz.func63, Tryz.ntmps63
   go_wp2
   go_ret
   exact ⟨by rw [HF.out]; rfl, rfl⟩
theorem leadN_le (c : Nat) : leadN c <= 4 := by
 unfold leadN
 repeat' split
 all_goals omega
theorem leadV_bound (c : Nat) : 0 <= leadV c /\ leadV c < 128 /\ (leadN c ≠ 1 -> leadV c < 32) := by
 unfold leadV leadN
 repeat' split
 all_goals omega
def pairV (r : Int × Nat) : Value := .tuple #[.int .i32 r.1, .int .i64 (r.2 : Int)]
set_option maxHeartbeats 1600000 in
theorem next_l (l : List UInt8) (i : Int) (w : World) (hl : l.length <= 4611686018427387904) (hi : -9223372036854775808 <= i /\ i <= 9223372036854775807) :
   Calls Tryz.prog 40 #[.string (B l), .int .i64 i] w fun e w' => e = .returned (pairV (nextAt l i)) /\ w' = w := by
 have LEAD := Lib.hid lead_any; have LEAST := Lib.hid least_any; have SCAL := Lib.hid scalar_any
 by_cases h0 : i < 0
 · have HF := Lib.hid (nextAt_out (l := l) (.inl h0))
   go_enter Tryz.func40, Tryz.ntmps40
   go_wp2_with fail
   go_ret2
   exact ⟨by rw [HF.out]; rfl, rfl⟩
 obtain ⟨n, rfl⟩ := Int.eq_ofNat_of_zero_le (Int.not_lt.1 h0)
 by_cases h1 : l.length <= n
 · have HF := Lib.hid (nextAt_out (l := l) (i := (n : Int)) (.inr (by omega)))
   go_enter Tryz.func40, Tryz.ntmps40
   go_wp2_with fail
   go_ret2
   exact ⟨by rw [HF.out]; rfl, rfl⟩
 have hn : n < l.length := by omega
 have HF := Lib.hid (nextAt_at hn)
 obtain ⟨c, hc⟩ : ∃ c, l[n] = c := ⟨_, rfl⟩
 have HC := Lib.hid hc
 obtain ⟨N, hN⟩ : ∃ N, leadN c.toNat = N := ⟨_, rfl⟩
 obtain ⟨V, hV⟩ : ∃ V, leadV c.toNat = V := ⟨_, rfl⟩
 have hN4 : N <= 4 := hN ▸ leadN_le _
 have hVb := leadV_bound c.toNat
 rw [hV, hN] at hVb
 have HN := Lib.hid hN; have HV := Lib.hid hV
 have LEADc := Lib.hid (fun (w : World) => hV ▸ hN ▸ lead_any c w)
 clear h0 h1 hN hV
 by_cases hq : N = 0 \/ l.length - n < N
 · have HE : Hid (nextAt l n = (0, 0)) := Lib.hid (by rw [HF.out, HC.out, nextP_none]; rw [HN.out]; simp; omega)
   by_cases hq0 : N = 0
   · have hq1 : ((N : Int) == 0) = true := by rw [hq0]; rfl
     clear hq
     go_enter Tryz.func40, Tryz.ntmps40
     go_wp2_with (go_at_call 61; refine (LEADc.out _).mono ?_; rintro e w1 ⟨rfl, rfl⟩)
     go_ret2
     exact ⟨by rw [HE.out]; rfl, rfl⟩
   · have hq1 : ((N : Int) == 0) = false := by rw [beq_eq_false_iff_ne]; omega
     have hq2 : (l.length : Int) < n + N := by omega
     clear hq
     go_enter Tryz.func40, Tryz.ntmps40
     go_wp2_with (go_at_call 61; refine (LEADc.out _).mono ?_; rintro e w1 ⟨rfl, rfl⟩)
     go_ret2
     exact ⟨by rw [HE.out]; rfl, rfl⟩
 · have hq1 : ((N : Int) == 0) = false := by rw [beq_eq_false_iff_ne]; omega
   have hq2 : ¬ (l.length : Int) < n + N := by omega
   have hN1 : 1 <= N := by omega
   have HO : Hid (nextAt l n = finN N (tailV V (l.drop (n + 1)) (N - 1))) :=
     Lib.hid (by rw [HF.out, HC.out, nextP_out HN.out HV.out (by omega) (by simp; omega)])
   clear hq
   go_enter Tryz.func40, Tryz.ntmps40
   go_wp2_with (go_at_call 61; refine (LEADc.out _).mono ?_; rintro e w1 ⟨rfl, rfl⟩)
   go_loop [7, 8] (fun r i => ∃ (k : Nat) (acc : Int), 1 <= k /\ k <= N /\ i = .int .i64 k /\ r = .int .i32 acc /\ (0 <= acc /\ acc < 8388608 /\ (k = 1 -> acc < 128) /\ (k = 1 -> 1 < N -> acc < 32) /\ (k = 2 -> acc < 2048) /\ (k = 3 -> acc < 131072)) /\ Hid (tailV V (l.drop (n + 1)) (N - 1) = tailV acc (l.drop (n + k)) (N - k))) (fun _ i => N - (intOf i).toNat)
   case atStart => exact ⟨1, V, Nat.le_refl _, hN1, rfl, rfl, by omega, rfl⟩
   case round =>
     obtain ⟨k, acc, hk1, hkN, rfl, rfl, hacc, HT⟩ := hrel
     by_cases hlt : k < N
     · have hnk : n + k < l.length := by omega
       have HD := Lib.hid (List.drop_eq_getElem_cons hnk)
       obtain ⟨d, hd⟩ : ∃ d, l[n + k] = d := ⟨_, rfl⟩
       have HDD := Lib.hid hd
       have hdl := d.toNat_lt
       have h192 := and192 d
       have h63 := u8_and63 (x := (d.toNat : Int)) (by omega) (by omega)
       by_cases hd2 : d.toNat / 64 = 2
       · have hb1 : ((d.toNat : Int) / 64 * 64 != 128) = false := by simp; omega
         have ha : 0 <= acc /\ acc < 131072 := by omega
         have hw : IntKind.i32.wrap (acc * 64) = acc * 64 := wraps_i32 _ (by omega) (by omega)
         have ho : bits .or .i32 (acc * 64) ((d.toNat : Int) % 64) = acc * 64 + (d.toNat : Int) % 64 := i32_or6 _ _ (by omega) (by omega) (by omega) (by omega) (by omega)
         have HT2 : Hid (tailV V (l.drop (n + 1)) (N - 1) = tailV (acc * 64 + (d.toNat : Int) % 64) (l.drop (n + (k + 1))) (N - (k + 1))) :=
           Lib.hid (by rw [HT.out, HD.out, HDD.out, show N - k = (N - (k + 1)) + 1 by omega, tailV_s, if_pos hd2]; rfl)
         have hbnd : 0 <= acc * 64 + (d.toNat : Int) % 64 /\ acc * 64 + (d.toNat : Int) % 64 < 8388608 /\ (k + 1 = 1 -> acc * 64 + (d.toNat : Int) % 64 < 128) /\ (k + 1 = 1 -> 1 < N -> acc * 64 + (d.toNat : Int) % 64 < 32) /\ (k + 1 = 2 -> acc * 64 + (d.toNat : Int) % 64 < 2048) /\ (k + 1 = 3 -> acc * 64 + (d.toNat : Int) % 64 < 131072) := by omega
         have HB := Lib.hid hbnd
         clear hd2 hbnd HT HD hacc
         go_wp2_with fail
         go_round
         case rel => exact ⟨k + 1, _, by omega, by omega, by go_num, rfl, HB.out, HT2⟩
         case measure => simp [intOf]; omega
       · have hb1 : ((d.toNat : Int) / 64 * 64 != 128) = true := by simp; omega
         have HE : Hid (nextAt l n = (0, 0)) := Lib.hid (by rw [HO.out, HT.out, HD.out, HDD.out, show N - k = (N - (k + 1)) + 1 by omega, tailV_s, if_neg hd2, finN])
         clear hd2 HT HD hacc
         go_wp2_with fail
         go_ret2
         exact ⟨by rw [HE.out]; rfl, rfl⟩
     · obtain rfl : k = N := by omega
       have HE : Hid (nextAt l n = if acc < leastOf k \/ scal acc = false then (0, 0) else (acc, k)) := Lib.hid (by rw [HO.out, HT.out, Nat.sub_self, tailV, finN])
       clear HT hacc
       by_cases hle : acc < leastOf k
       · have HE2 : Hid (nextAt l n = (0, 0)) := Lib.hid (by rw [HE.out, if_pos (Or.inl hle)])
         clear HE
         go_wp2_with (go_at_call 62; refine (LEAST.out k hN4 _).mono ?_; rintro e w1 ⟨rfl, rfl⟩)
         go_ret2
         exact ⟨by rw [HE2.out]; rfl, rfl⟩
       · cases hs : scal acc with
         | false =>
           have HE2 : Hid (nextAt l n = (0, 0)) := Lib.hid (by rw [HE.out, if_pos (Or.inr hs)])
           clear HE
           go_wp2_with (first | (go_at_call 62; refine (LEAST.out k hN4 _).mono ?_; rintro e w1 ⟨rfl, rfl⟩) | (go_at_call 63; refine (SCAL.out acc _).mono ?_; rintro e w1 ⟨rfl, rfl⟩))
           go_ret2
           exact ⟨by rw [HE2.out]; rfl, rfl⟩
         | true =>
           have HE2 : Hid (nextAt l n = (acc, k)) := Lib.hid (by rw [HE.out, if_neg]; rintro (h | h); exact hle h; rw [hs] at h; cases h)
           clear HE
           go_wp2_with (first | (go_at_call 62; refine (LEAST.out k hN4 _).mono ?_; rintro e w1 ⟨rfl, rfl⟩) | (go_at_call 63; refine (SCAL.out acc _).mono ?_; rintro e w1 ⟨rfl, rfl⟩))
           go_ret2
           exact ⟨by rw [HE2.out]; rfl, rfl⟩
end Go.Proofs.YtdhmpakhdhdebaaGreatDoor
namespace Go.Proofs.YtdhmpakhdhdebaaGreatDoor
open Go.RowKit
set_option maxRecDepth 100000
def BytesOut (r : Int) (w : World) (e : Ending) (w' : World) : Prop := ∃ c, e = .returned (.slice (some ⟨w.heap.size, 0, none⟩) (bytesOf r).length c) /\ At w' (some ⟨w.heap.size, 0, none⟩) ((bytesOf r).map (Value.int .u8)) /\ Below w.heap.size w w'
theorem bytes_out {r : Int} {w : World} (t : TypeId) (L : List Int) (h : bytesOf r = L) : BytesOut r w (.returned (.slice (some ⟨w.heap.size, 0, none⟩) L.length L.length)) (w.alloc (.cells (L.map (Value.int .u8)).toArray t)) := by
 subst h
 refine ⟨_, rfl, fun j hj => ⟨w.heap.size, 0, rfl, ?_⟩, (Below.refl _ _).alloc (Nat.le_refl _) _⟩
 rw [Nat.zero_add, World.cell?_alloc_new]
 simp only [List.getElem?_toArray]
 exact List.getElem?_eq_getElem hj
def bytesU (r : Int) : List UInt8 := (bytesOf r).map fun x => UInt8.ofNat x.toNat
theorem bytesOf_mem (r : Int) : ∀ x ∈ bytesOf r, 0 <= x /\ x < 256 := by
 intro x hx
 unfold bytesOf at hx
 split at hx
 · simp at hx; omega
 · split at hx
   · simp at hx; omega
   · split at hx
     · simp at hx; omega
     · simp at hx; omega
theorem bytesU_ints (r : Int) : ints (bytesU r) = bytesOf r := by
 unfold ints bytesU
 rw [List.map_map]
 conv => rhs; rw [<- List.map_id (bytesOf r)]
 apply List.map_congr_left
 intro x hx
 have := bytesOf_mem r x hx
 simp
 omega
theorem bytesU_cells (r : Int) : (bytesOf r).map (Value.int .u8) = (bytesU r).map U8 := by
 rw [<- bytesU_ints]
 simp [ints, U8]
theorem bytesU_length (r : Int) : (bytesU r).length = (bytesOf r).length := by simp [bytesU]
end Go.Proofs.YtdhmpakhdhdebaaGreatDoor
namespace Go.Proofs.YtdhmpakhdhdebaaGreatDoor
open Go.RowKit
set_option maxRecDepth 100000
theorem At.drew {w : World} {a : Option Addr} {xs : List Value} (h : At w a xs) : At w.drew a xs := h
end Go.Proofs.YtdhmpakhdhdebaaGreatDoor
namespace Go.Proofs.YtdhmpakhdhdebaaGreatDoor
open Go.RowKit
set_option maxRecDepth 100000
set_option maxHeartbeats 1600000 in
theorem run_labels (l : List UInt8) (i : Int) (w : World) (hl : l.length <= 4611686018427387904) (hi : -9223372036854775808 <= i /\ i <= 9223372036854775807) (hT : TabAt w) :
   Calls Tryz.prog 143 #[.string (B l), .int .i64 i, .func (Fn.func 144) #[] #[]] w fun e w' => e = .returned (.int .i64 (runF labelB l i : Nat)) /\ w' = w := by
 have NEXT := Lib.hid (fun (j : Int) (hj : -9223372036854775808 <= j /\ j <= 9223372036854775807) (v : Int) (n : Nat) (h : nextAt l j = (v, n)) => h ▸ next_l l j w hl hj)
 have FOL := Lib.hid (fun r => follow_any r w hT)
 have FST := Lib.hid (fun r => labels_any r w hT)
 clear hT
 obtain ⟨v, n, hp⟩ : ∃ v n, nextAt l i = (v, n) := ⟨_, _, rfl⟩
 have N1 := Lib.hid (NEXT.out i hi v n hp)
 by_cases hn : n = 0
 · have HF : Hid (runF labelB l i = 0) := Lib.hid (runF_no hp (.inl hn))
   have e0 : ((n : Int) == 0) = true := by rw [hn]; rfl
   clear hp hn
   go_enter Tryz.func143, Tryz.ntmps143
   go_wp2_with (go_at_call 40; refine N1.out.mono ?_; rintro e w1 ⟨rfl, rfl⟩; unfold pairV)
   go_ret
   exact ⟨by rw [HF.out]; rfl, rfl⟩
 have e0 : ((n : Int) == 0) = false := beq_eq_false_iff_ne.2 (by omega)
 have hb := nextAt_bound hp hn
 cases hf : labelB v with
 | false =>
   have HF : Hid (runF labelB l i = 0) := Lib.hid (runF_no hp (.inr hf))
   clear hp hn hb
   go_enter Tryz.func143, Tryz.ntmps143
   go_wp2_with (first | (go_at_call 40; refine N1.out.mono ?_; rintro e w1 ⟨rfl, rfl⟩; unfold pairV) | (go_at_call 144; refine (FST.out v).mono ?_; rintro e w1 ⟨rfl, rfl⟩))
   go_ret
   exact ⟨by rw [HF.out]; rfl, rfl⟩
 | true =>
   obtain ⟨a, rfl⟩ := Int.eq_ofNat_of_zero_le hb.1
   have HF : Hid (runF labelB l a = tailF l (a + n) (a + n) - a) := Lib.hid (runF_go hp (by rw [hf]; rintro (h | h); exact hn h; cases h))
   have hb2 : a + n <= l.length := by omega
   have hge := tailF_ge l _ (a + n) (a + n) (Nat.le_refl _) (Nat.le_refl _)
   have HG := Lib.hid hge
   clear hp hb hge
   go_enter Tryz.func143, Tryz.ntmps143
   go_wp2_with (first | (go_at_call 40; refine N1.out.mono ?_; rintro e w1 ⟨rfl, rfl⟩; unfold pairV) | (go_at_call 144; refine (FST.out v).mono ?_; rintro e w1 ⟨rfl, rfl⟩))
   go_loop [7, 8, 9, 10] (fun _ _ e i => ∃ en j : Nat, e = .int .i64 en /\ i = .int .i64 j /\ en <= j /\ j <= l.length /\ Hid (tailF l (a + n) (a + n) = tailF l j en)) (fun _ _ _ i => l.length - (intOf i).toNat)
   case atStart => exact ⟨a + n, a + n, by go_num, by go_num, Nat.le_refl _, hb2, rfl⟩
   case round =>
     obtain ⟨en, j, rfl, rfl, hej, hjl, HT⟩ := hrel
     obtain ⟨x, m, hq⟩ : ∃ x m, nextAt l (j : Int) = (x, m) := ⟨_, _, rfl⟩
     have N2 := Lib.hid (NEXT.out j (by omega) x m hq)
     by_cases hm : m = 0
     · have HE : Hid (runF labelB l a = en - a) := Lib.hid (by rw [HF.out, HT.out, tailF_stop hq (.inl hm)])
       have m0 : ((m : Int) == 0) = true := by rw [hm]; rfl
       have hen : a <= en := by have h1 := HG.out; rw [HT.out, tailF_stop hq (.inl hm)] at h1; omega
       clear hq hm HT
       go_wp2_with (go_at_call 40; refine N2.out.mono ?_; rintro e w1 ⟨rfl, rfl⟩; unfold pairV)
       go_ret
       exact ⟨ret_i64 (by rw [HE.out]; omega), rfl⟩
     have m0 : ((m : Int) == 0) = false := beq_eq_false_iff_ne.2 (by omega)
     have hmb := nextAt_bound hq hm
     have hjm : j + m <= l.length := by omega
     by_cases hx : x = 46
     · have x0 : (x != 46) = false := by rw [hx]; rfl
       have HT2 : Hid (tailF l (a + n) (a + n) = tailF l (j + m) en) := Lib.hid (by rw [HT.out, tailF_go hq (by rintro (h | h); exact hm h; exact h.1 hx), if_pos hx])
       clear hq hmb hx HT
       go_wp2_with (go_at_call 40; refine N2.out.mono ?_; rintro e w1 ⟨rfl, rfl⟩; unfold pairV)
       go_round
       case rel => exact ⟨en, j + m, rfl, by go_num, by omega, hjm, HT2⟩
       case measure => simp [intOf]; omega
     · have x0 : (x != 46) = true := by rw [bne_iff_ne]; exact hx
       cases hfo : followB x with
       | false =>
         have HE : Hid (runF labelB l a = en - a) := Lib.hid (by rw [HF.out, HT.out, tailF_stop hq (.inr ⟨hx, hfo⟩)])
         have hen : a <= en := by have h1 := HG.out; rw [HT.out, tailF_stop hq (.inr ⟨hx, hfo⟩)] at h1; omega
         clear hq hmb hx HT hm
         go_wp2_with (first | (go_at_call 40; refine N2.out.mono ?_; rintro e w1 ⟨rfl, rfl⟩; unfold pairV) | (go_at_call 172; refine (FOL.out x).mono ?_; rintro e w1 ⟨rfl, rfl⟩))
         go_ret
         exact ⟨ret_i64 (by rw [HE.out]; omega), rfl⟩
       | true =>
         have HT2 : Hid (tailF l (a + n) (a + n) = tailF l (j + m) (j + m)) := Lib.hid (by rw [HT.out, tailF_go hq (by rw [hfo]; rintro (h | h); exact hm h; cases h.2), if_neg hx])
         clear hq hmb hx HT
         go_wp2_with (first | (go_at_call 40; refine N2.out.mono ?_; rintro e w1 ⟨rfl, rfl⟩; unfold pairV) | (go_at_call 172; refine (FOL.out x).mono ?_; rintro e w1 ⟨rfl, rfl⟩))
         go_round
         case rel => exact ⟨j + m, j + m, by go_num, by go_num, Nat.le_refl _, hjm, HT2⟩
         case measure => simp [intOf]; omega
set_option maxHeartbeats 1600000 in
theorem run_base (l : List UInt8) (i : Int) (w : World) (hl : l.length <= 4611686018427387904) (hi : -9223372036854775808 <= i /\ i <= 9223372036854775807) (hT : TabAt w) :
   Calls Tryz.prog 143 #[.string (B l), .int .i64 i, .func (Fn.func 154) #[] #[]] w fun e w' => e = .returned (.int .i64 (runF baseB l i : Nat)) /\ w' = w := by
 have NEXT := Lib.hid (fun (j : Int) (hj : -9223372036854775808 <= j /\ j <= 9223372036854775807) (v : Int) (n : Nat) (h : nextAt l j = (v, n)) => h ▸ next_l l j w hl hj)
 have FOL := Lib.hid (fun r => follow_any r w hT)
 have FST := Lib.hid (fun r => base_any r w hT)
 clear hT
 obtain ⟨v, n, hp⟩ : ∃ v n, nextAt l i = (v, n) := ⟨_, _, rfl⟩
 have N1 := Lib.hid (NEXT.out i hi v n hp)
 by_cases hn : n = 0
 · have HF : Hid (runF baseB l i = 0) := Lib.hid (runF_no hp (.inl hn))
   have e0 : ((n : Int) == 0) = true := by rw [hn]; rfl
   clear hp hn
   go_enter Tryz.func143, Tryz.ntmps143
   go_wp2_with (go_at_call 40; refine N1.out.mono ?_; rintro e w1 ⟨rfl, rfl⟩; unfold pairV)
   go_ret
   exact ⟨by rw [HF.out]; rfl, rfl⟩
 have e0 : ((n : Int) == 0) = false := beq_eq_false_iff_ne.2 (by omega)
 have hb := nextAt_bound hp hn
 cases hf : baseB v with
 | false =>
   have HF : Hid (runF baseB l i = 0) := Lib.hid (runF_no hp (.inr hf))
   clear hp hn hb
   go_enter Tryz.func143, Tryz.ntmps143
   go_wp2_with (first | (go_at_call 40; refine N1.out.mono ?_; rintro e w1 ⟨rfl, rfl⟩; unfold pairV) | (go_at_call 154; refine (FST.out v).mono ?_; rintro e w1 ⟨rfl, rfl⟩))
   go_ret
   exact ⟨by rw [HF.out]; rfl, rfl⟩
 | true =>
   obtain ⟨a, rfl⟩ := Int.eq_ofNat_of_zero_le hb.1
   have HF : Hid (runF baseB l a = tailF l (a + n) (a + n) - a) := Lib.hid (runF_go hp (by rw [hf]; rintro (h | h); exact hn h; cases h))
   have hb2 : a + n <= l.length := by omega
   have hge := tailF_ge l _ (a + n) (a + n) (Nat.le_refl _) (Nat.le_refl _)
   have HG := Lib.hid hge
   clear hp hb hge
   go_enter Tryz.func143, Tryz.ntmps143
   go_wp2_with (first | (go_at_call 40; refine N1.out.mono ?_; rintro e w1 ⟨rfl, rfl⟩; unfold pairV) | (go_at_call 154; refine (FST.out v).mono ?_; rintro e w1 ⟨rfl, rfl⟩))
   go_loop [7, 8, 9, 10] (fun _ _ e i => ∃ en j : Nat, e = .int .i64 en /\ i = .int .i64 j /\ en <= j /\ j <= l.length /\ Hid (tailF l (a + n) (a + n) = tailF l j en)) (fun _ _ _ i => l.length - (intOf i).toNat)
   case atStart => exact ⟨a + n, a + n, by go_num, by go_num, Nat.le_refl _, hb2, rfl⟩
   case round =>
     obtain ⟨en, j, rfl, rfl, hej, hjl, HT⟩ := hrel
     obtain ⟨x, m, hq⟩ : ∃ x m, nextAt l (j : Int) = (x, m) := ⟨_, _, rfl⟩
     have N2 := Lib.hid (NEXT.out j (by omega) x m hq)
     by_cases hm : m = 0
     · have HE : Hid (runF baseB l a = en - a) := Lib.hid (by rw [HF.out, HT.out, tailF_stop hq (.inl hm)])
       have m0 : ((m : Int) == 0) = true := by rw [hm]; rfl
       have hen : a <= en := by have h1 := HG.out; rw [HT.out, tailF_stop hq (.inl hm)] at h1; omega
       clear hq hm HT
       go_wp2_with (go_at_call 40; refine N2.out.mono ?_; rintro e w1 ⟨rfl, rfl⟩; unfold pairV)
       go_ret
       exact ⟨ret_i64 (by rw [HE.out]; omega), rfl⟩
     have m0 : ((m : Int) == 0) = false := beq_eq_false_iff_ne.2 (by omega)
     have hmb := nextAt_bound hq hm
     have hjm : j + m <= l.length := by omega
     by_cases hx : x = 46
     · have x0 : (x != 46) = false := by rw [hx]; rfl
       have HT2 : Hid (tailF l (a + n) (a + n) = tailF l (j + m) en) := Lib.hid (by rw [HT.out, tailF_go hq (by rintro (h | h); exact hm h; exact h.1 hx), if_pos hx])
       clear hq hmb hx HT
       go_wp2_with (go_at_call 40; refine N2.out.mono ?_; rintro e w1 ⟨rfl, rfl⟩; unfold pairV)
       go_round
       case rel => exact ⟨en, j + m, rfl, by go_num, by omega, hjm, HT2⟩
       case measure => simp [intOf]; omega
     · have x0 : (x != 46) = true := by rw [bne_iff_ne]; exact hx
       cases hfo : followB x with
       | false =>
         have HE : Hid (runF baseB l a = en - a) := Lib.hid (by rw [HF.out, HT.out, tailF_stop hq (.inr ⟨hx, hfo⟩)])
         have hen : a <= en := by have h1 := HG.out; rw [HT.out, tailF_stop hq (.inr ⟨hx, hfo⟩)] at h1; omega
         clear hq hmb hx HT hm
         go_wp2_with (first | (go_at_call 40; refine N2.out.mono ?_; rintro e w1 ⟨rfl, rfl⟩; unfold pairV) | (go_at_call 172; refine (FOL.out x).mono ?_; rintro e w1 ⟨rfl, rfl⟩))
         go_ret
         exact ⟨ret_i64 (by rw [HE.out]; omega), rfl⟩
       | true =>
         have HT2 : Hid (tailF l (a + n) (a + n) = tailF l (j + m) (j + m)) := Lib.hid (by rw [HT.out, tailF_go hq (by rw [hfo]; rintro (h | h); exact hm h; cases h.2), if_neg hx])
         clear hq hmb hx HT
         go_wp2_with (first | (go_at_call 40; refine N2.out.mono ?_; rintro e w1 ⟨rfl, rfl⟩; unfold pairV) | (go_at_call 172; refine (FOL.out x).mono ?_; rintro e w1 ⟨rfl, rfl⟩))
         go_round
         case rel => exact ⟨j + m, j + m, by go_num, by go_num, Nat.le_refl _, hjm, HT2⟩
         case measure => simp [intOf]; omega
theorem labelAt_l (l : List UInt8) (i : Int) (w : World) (hl : l.length <= 4611686018427387904) (hi : -9223372036854775808 <= i /\ i <= 9223372036854775807) (hT : TabAt w) :
   Calls Tryz.prog 98 #[.string (B l), .int .i64 i] w fun e w' => e = .returned (.int .i64 (runF labelB l i : Nat)) /\ w' = w := by
 have R := Lib.hid (run_labels l i w hl hi hT)
 clear hT
 go_enter Tryz.func98, Tryz.ntmps98
 go_wp2_with (go_at_call 143; refine R.out.mono ?_; rintro e w1 ⟨rfl, rfl⟩)
 go_ret
 exact ⟨rfl, rfl⟩
end Go.Proofs.YtdhmpakhdhdebaaGreatDoor
namespace Go.Proofs.YtdhmpakhdhdebaaGreatDoor
open Go.RowKit
set_option maxRecDepth 100000
theorem builderString_l (B_ b : Nat) (l : List UInt8) (w : World) (h : BuildsB w B_ b l) (hBw : B_ <= w.heap.size) :
   Calls Tryz.prog 50 #[.pointer (some ⟨b, 0, none⟩)] w fun e w' => e = .returned (.string (B l)) /\ Below B_ w w' :=
 Tryz.Builder_String_any B_ b l w h hBw
theorem cat92 (m : List UInt8) : (⟨#[92]⟩ : ByteArray) ++ B m = B (92 :: m) := B_append [92] m
attribute [go_sem] cat92
end Go.Proofs.YtdhmpakhdhdebaaGreatDoor
namespace Go.Proofs.YtdhmpakhdhdebaaGreatDoor
open Go.RowKit
set_option maxRecDepth 100000
end Go.Proofs.YtdhmpakhdhdebaaGreatDoor
namespace Go.Proofs.YtdhmpakhdhdebaaGreatDoor
open Go.RowKit
set_option maxRecDepth 100000
end Go.Proofs.YtdhmpakhdhdebaaGreatDoor
