/-
  utf.bytes, digits: contracts. By an AI agent.
-/
import Derived.Test.YtdhmpakhdhdebaaGreatDoorZUtfCheck
namespace Go.Proofs.YtdhmpakhdhdebaaGreatDoor
open Go.Lib (hid)
open Go.RowKit
set_option maxRecDepth 100000
theorem i32_and63 {x : Int} (h0 : 0 <= x) (h1 : x < 2147483648) : bits .and .i32 x 63 = x % 64 := bits_mask .i32 31 (by decide) wraps_i32 6 (by decide) x h0 h1
theorem i32_or128 {x : Int} : bits .or .i32 128 (x % 64) = 128 + x % 64 := i32_or6 128 _ (by decide) (by decide) (by decide) (by omega) (by omega)
theorem utfBytes_l (r : Int) (w : World) (h0 : 0 <= r) (h1 : r <= 1114111) :
  Calls Tryz.prog 169 #[.int .i32 r] w fun e w' => BytesOut r w e w' := by
 by_cases a : r < 128
 ·have HF := hid (bytesOf1 a)
  go_enter Tryz.func169, Tryz.ntmps169
  go_wp2
  go_ret
  exact bytes_out 5 [r] (by rw [HF.out, show r % 256 = r by omega])
 have m0 : bits .and .i32 r 63 = r % 64 := i32_and63 h0 (by omega)
 have m1 : bits .and .i32 (r / 64) 63 = r / 64 % 64 := i32_and63 (by omega) (by omega)
 have m2 : bits .and .i32 (r / 4096) 63 = r / 4096 % 64 := i32_and63 (by omega) (by omega)
 have o0 : bits .or .i32 128 (r % 64) = 128 + r % 64 := i32_or128
 have o1 : bits .or .i32 128 (r / 64 % 64) = 128 + r / 64 % 64 := i32_or128
 have o2 : bits .or .i32 128 (r / 4096 % 64) = 128 + r / 4096 % 64 := i32_or128
 by_cases b : r < 2048
 ·have HF := hid (bytesOf2 (by omega) b)
  go_enter Tryz.func169, Tryz.ntmps169
  go_wp2
  go_ret
  exact bytes_out 5 [192 + r / 64, 128 + r % 64] (by rw [HF.out, show (192 + r / 64) % 256 = 192 + r / 64 by omega, show (128 + r % 64) % 256 = 128 + r % 64 by omega])
 by_cases c : r < 65536
 ·have HF := hid (bytesOf3 (by omega) c)
  have p1 : bits .or .i32 224 (r / 4096) = 224 + r / 4096 := bits_join .i32 31 (by decide) wraps_i32 5 224 _ (by decide) (by decide) (by decide) (by omega) (by omega) (by omega)
  go_enter Tryz.func169, Tryz.ntmps169
  go_wp2
  go_ret
  exact bytes_out 5 [224 + r / 4096, 128 + r / 64 % 64, 128 + r % 64] (by rw [HF.out, show (224 + r / 4096) % 256 = 224 + r / 4096 by omega, show (128 + r / 64 % 64) % 256 = 128 + r / 64 % 64 by omega, show (128 + r % 64) % 256 = 128 + r % 64 by omega])
 ·have HF := hid (bytesOf4 (r := r) (by omega))
  have p1 : bits .or .i32 240 (r / 262144) = 240 + r / 262144 := bits_join .i32 31 (by decide) wraps_i32 4 240 _ (by decide) (by decide) (by decide) (by omega) (by omega) (by omega)
  go_enter Tryz.func169, Tryz.ntmps169
  go_wp2
  go_ret
  exact bytes_out 5 [240 + r / 262144, 128 + r / 4096 % 64, 128 + r / 64 % 64, 128 + r % 64] (by rw [HF.out, show (240 + r / 262144) % 256 = 240 + r / 262144 by omega, show (128 + r / 4096 % 64) % 256 = 128 + r / 4096 % 64 by omega, show (128 + r / 64 % 64) % 256 = 128 + r / 64 % 64 by omega, show (128 + r % 64) % 256 = 128 + r % 64 by omega])
def hexI (c : UInt8) : Int := match hexV c with | some v => (v : Int) | none => -1
theorem hex_l (c : UInt8) (w : World) : Calls Tryz.prog 243 #[.int .u8 (c.toNat : Int)] w fun e w' => e = .returned (.int .i64 (hexI c)) /\ w' = w := by
 have hc := c.toNat_lt
 by_cases a : 48 <= c.toNat /\ c.toNat <= 57
 ·have HF : Hid (hexI c = (c.toNat : Int) - 48) := hid (by unfold hexI hexV; rw [if_pos a]; simp only; omega)
  obtain ⟨a1, a2⟩ := a
  go_enter Tryz.func243, Tryz.ntmps243
  go_wp2
  go_ret
  exact ⟨ret_i64 (by have := HF.out; omega), rfl⟩
 by_cases b : 97 <= c.toNat /\ c.toNat <= 102
 ·have HF : Hid (hexI c = (c.toNat : Int) - 87) := hid (by unfold hexI hexV; rw [if_neg a, if_pos b]; simp only; omega)
  clear a
  obtain ⟨b1, b2⟩ := b
  go_enter Tryz.func243, Tryz.ntmps243
  go_wp2
  go_ret
  exact ⟨ret_i64 (by have := HF.out; omega), rfl⟩
 by_cases d : 65 <= c.toNat /\ c.toNat <= 70
 ·have HF : Hid (hexI c = (c.toNat : Int) - 55) := hid (by unfold hexI hexV; rw [if_neg a, if_neg b, if_pos d]; simp only; omega)
  clear a b
  obtain ⟨d1, d2⟩ := d
  go_enter Tryz.func243, Tryz.ntmps243
  go_wp2
  go_ret
  exact ⟨ret_i64 (by have := HF.out; omega), rfl⟩
 ·have HF : Hid (hexI c = -1) := hid (by unfold hexI hexV; rw [if_neg a, if_neg b, if_neg d])
  go_enter Tryz.func243, Tryz.ntmps243
  go_wp2
  all_goals first | omega | (go_ret; exact ⟨ret_i64 HF.out.symm, rfl⟩)
theorem hexI_some {c : UInt8} {d : Nat} (h : hexV c = some d) : hexI c = (d : Int) := by unfold hexI; rw [h]
theorem hexI_none {c : UInt8} (h : hexV c = none) : hexI c = -1 := by unfold hexI; rw [h]
theorem wraps_i64 (n : Int) (h0 : 0 <= n) (h1 : n < 2 ^ 62) : IntKind.i64.wrap n = n := by rw [IntKind.wrap_i64]; omega
theorem i64_or4 {x y : Int} (h0 : 0 <= x) (h1 : x < 2 ^ 62) (hx : x % 16 = 0) (h2 : 0 <= y) (h3 : y < 16) : bits .or .i64 x y = x + y := bits_join .i64 62 (by decide) wraps_i64 4 x y h0 hx h1 h2 h3 (by omega)
def NumOut (t : List UInt8) (k : Nat) (e : Ending) : Prop := ∃ x b, e = .returned (.tuple #[.int .i32 x, .bool b]) /\ b = (numF t k).isSome /\ ∀ r, numF t k = some r -> x = r
theorem NumOut.none {t : List UInt8} {k : Nat} {x : Int} (h : numF t k = none) : NumOut t k (.returned (.tuple #[.int .i32 x, .bool false])) := ⟨x, false, rfl, by rw [h]; rfl, fun r hr => by rw [h] at hr; cases hr⟩
theorem NumOut.some {t : List UInt8} {k : Nat} {x : Int} (h : numF t k = some x) : NumOut t k (.returned (.tuple #[.int .i32 x, .bool true])) := ⟨x, true, rfl, by rw [h]; rfl, fun r hr => by rw [h] at hr; cases hr; rfl⟩
theorem numF_short {t : List UInt8} {k : Nat} (h : t.length < k) : numF t k = none := by
 cases hv : numF t k with
 | none => rfl
 | some r => have := (numF_some hv).1; omega
theorem numV_step {acc n : Nat} {t : List UInt8} {j : Nat} (hj : j < t.length) : numV acc (t.drop j) (n + 1) = (match hexV t[j] with | none => none | some d => numV (acc * 16 + d) (t.drop (j + 1)) n) := by
 rw [List.drop_eq_getElem_cons hj, numV]
 cases hexV t[j] <;> rfl
theorem numF_of {t : List UInt8} {k v : Nat} (h : numV 0 t k = some v) : numF t k = if scal v = true then some (v : Int) else none := by unfold numF; rw [h]
theorem numF_none {t : List UInt8} {k : Nat} (h : numV 0 t k = none) : numF t k = none := by unfold numF; rw [h]
theorem scal_big {v : Int} (h : 1114111 < v) : ¬ scal v = true := by unfold scal; simp; omega
set_option maxHeartbeats 1600000 in
theorem number_l (t : List UInt8) (k : Nat) (w : World) (hk : k <= 8) (hl : t.length <= 4611686018427387904) :
  Calls Tryz.prog 228 #[.string (B t), .int .i64 k] w fun e w' => NumOut t k e /\ w' = w := by
 have HX := hid hex_l; have SC := hid scalar_any
 by_cases hs : t.length < k
 ·have HF := hid (numF_short hs)
  go_enter Tryz.func228, Tryz.ntmps228
  go_wp2
  go_ret2
  exact ⟨.none HF.out, rfl⟩
 go_enter Tryz.func228, Tryz.ntmps228
 go_wp2_with fail
 go_loop [6, 14] (fun a i => ∃ acc j : Nat, j <= k /\ acc < 16 ^ j /\ a = .int .i64 acc /\ i = .int .i64 j /\ Hid (numV 0 t k = numV acc (t.drop j) (k - j))) (fun _ i => k - (intOf i).toNat)
 case atStart => exact ⟨0, 0, Nat.zero_le _, by decide, rfl, rfl, hid rfl⟩
 case round =>
  obtain ⟨acc, j, hj, ha, rfl, rfl, HN⟩ := hrel
  have hp : 16 ^ j <= 16 ^ 8 := Nat.pow_le_pow_right (by decide) (by omega)
  have ha8 : acc < 4294967296 := Nat.lt_of_lt_of_le ha hp
  have HA := hid ha
  clear ha hp
  by_cases hlt : j < k
  ·have hjl : j < t.length := by omega
   obtain ⟨m, hm⟩ : ∃ m, k - j = m + 1 := ⟨k - j - 1, by omega⟩
   have st := numV_step (acc := acc) (n := m) hjl
   rw [<- hm] at st
   cases hd : hexV t[j] with
   | none =>
    have HE := hid (numF_none (HN.out.trans (by rw [st, hd])))
    have N2 := hid (fun u => hexI_none hd ▸ HX.out t[j] u)
    clear st hd HN HX hm
    go_wp2_with (go_at_call 243; (with_reducible refine (N2.out _).mono ?_); rintro e w1 ⟨rfl, rfl⟩)
    go_ret2
    exact ⟨.none HE.out, rfl⟩
   | some d =>
    have hd16 := hexV_lt hd
    have HE : Hid (numV 0 t k = numV (acc * 16 + d) (t.drop (j + 1)) (k - (j + 1))) := hid (HN.out.trans (by rw [st, hd, show k - (j + 1) = m by omega]))
    have N2 := hid (fun u => hexI_some hd ▸ HX.out t[j] u)
    have o1 : bits .or .i64 ((acc : Int) * 16) (d : Int) = (acc : Int) * 16 + d := i64_or4 (by omega) (by omega) (by omega) (by omega) (by omega)
    have d0 : ((d : Int) < 0) = False := by simp
    clear st hd HN HX hm
    go_wp2_with (go_at_call 243; (with_reducible refine (N2.out _).mono ?_); rintro e w1 ⟨rfl, rfl⟩)
    refine ⟨⟨acc * 16 + d, j + 1, by omega, ?_, by go_num, by go_num, HE⟩, by simp [intOf]; omega⟩
    rw [Nat.pow_succ]
    have := HA.out
    omega
  ·obtain rfl : j = k := by omega
   have HE := hid (numF_of (HN.out.trans (by rw [Nat.sub_self, numV])))
   clear HN
   by_cases hbig : acc <= 1114111
   ·cases hsc : scal (acc : Int) with
    | true =>
     have H3 := hid (HE.out.trans (if_pos hsc))
     have N3 := hid (fun u => hsc ▸ SC.out (acc : Int) u)
     clear HE hsc SC
     go_wp2_with (go_at_call 63; (with_reducible refine (N3.out _).mono ?_); rintro e w1 ⟨rfl, rfl⟩)
     go_ret2
     exact ⟨.some H3.out, rfl⟩
    | false =>
     have H3 := hid (HE.out.trans (if_neg (by rw [hsc]; exact Bool.false_ne_true)))
     have N3 := hid (fun u => hsc ▸ SC.out (acc : Int) u)
     clear HE hsc SC
     go_wp2_with (go_at_call 63; (with_reducible refine (N3.out _).mono ?_); rintro e w1 ⟨rfl, rfl⟩)
     go_ret2
     exact ⟨.none H3.out, rfl⟩
   ·have H3 := hid (HE.out.trans (if_neg (scal_big (by omega))))
    clear HE
    go_wp2_with fail
    go_ret2
    exact ⟨.none H3.out, rfl⟩
end Go.Proofs.YtdhmpakhdhdebaaGreatDoor
namespace Go.Proofs.YtdhmpakhdhdebaaGreatDoor
open Go.Lib (hid)
open Go.RowKit
set_option maxRecDepth 100000
def letS : ByteArray := { data := #[116, 98, 110, 114, 102, 34, 39, 92] }
theorem ix_at (s : ByteArray) (c : Int) (k : Int) (h : Lib.indexByte s.data.toList c.toNat.toUInt8 = k) (u : World) :
  Calls Tryz.prog 72 #[.string s, .int .u8 c] u fun e w' => e = .returned (.int .i64 k) /\ w' = u := h ▸ Tryz.strings_IndexByte s c u
end Go.Proofs.YtdhmpakhdhdebaaGreatDoor
