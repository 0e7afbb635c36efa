/-
  utf.bytes, digits: contracts. By an AI agent.
-/
import Derived.Test.YtmnigckpejcaeaaGreatDoorZEsc0
import Derived.Test.YtmnigckpejcaeaaGreatDoorZUtfCheck
import Derived.Test.YtmnigckpejcaeaaGreatDoorZBuilder
import Derived.IntWalk
import Derived.Test.YtmnigckpejcaeaaGreatDoorShelf
import Derived.Test.YtmnigckpejcaeaaGreatDoorZGSpell
import Derived.WalkSmall
namespace Go.Proofs.YtmnigckpejcaeaaGreatDoor
open Go.RowKit
set_option maxRecDepth 100000
theorem i32_and63 {x : Int} (h0 : 0 <= x) (h1 : x < 2147483648) : bits .and .i32 x 63 = x % 64 := bits_mask .i32 31 (by decide) wraps_i32 6 (by decide) x h0 h1
theorem i32_or128 {x : Int} : bits .or .i32 128 (x % 64) = 128 + x % 64 := i32_or6 128 _ (by decide) (by decide) (by decide) (by omega) (by omega)
theorem utfBytes_l (r : Int) (w : World) (h0 : 0 <= r) (h1 : r <= 1114111) :
   Calls Tryz.prog 184 #[.int .i32 r] w fun e w' => BytesOut r w e w' := by
 by_cases a : r < 128
 · have HF := Lib.hid (bytesOf1 a)
   go_enter Tryz.func184, Tryz.ntmps184
   go_wp2
   go_ret
   exact bytes_out 5 [r] (by rw [HF.out, show r % 256 = r by omega])
 have m0 : bits .and .i32 r 63 = r % 64 := i32_and63 h0 (by omega)
 have m1 : bits .and .i32 (r / 64) 63 = r / 64 % 64 := i32_and63 (by omega) (by omega)
 have m2 : bits .and .i32 (r / 4096) 63 = r / 4096 % 64 := i32_and63 (by omega) (by omega)
 have o0 : bits .or .i32 128 (r % 64) = 128 + r % 64 := i32_or128
 have o1 : bits .or .i32 128 (r / 64 % 64) = 128 + r / 64 % 64 := i32_or128
 have o2 : bits .or .i32 128 (r / 4096 % 64) = 128 + r / 4096 % 64 := i32_or128
 by_cases b : r < 2048
 · have HF := Lib.hid (bytesOf2 (by omega) b)
   go_enter Tryz.func184, Tryz.ntmps184
   go_wp2
   go_ret
   exact bytes_out 5 [192 + r / 64, 128 + r % 64] (by rw [HF.out, show (192 + r / 64) % 256 = 192 + r / 64 by omega, show (128 + r % 64) % 256 = 128 + r % 64 by omega])
 by_cases c : r < 65536
 · have HF := Lib.hid (bytesOf3 (by omega) c)
   have p1 : bits .or .i32 224 (r / 4096) = 224 + r / 4096 := bits_join .i32 31 (by decide) wraps_i32 5 224 _ (by decide) (by decide) (by decide) (by omega) (by omega) (by omega)
   go_enter Tryz.func184, Tryz.ntmps184
   go_wp2
   go_ret
   exact bytes_out 5 [224 + r / 4096, 128 + r / 64 % 64, 128 + r % 64] (by rw [HF.out, show (224 + r / 4096) % 256 = 224 + r / 4096 by omega, show (128 + r / 64 % 64) % 256 = 128 + r / 64 % 64 by omega, show (128 + r % 64) % 256 = 128 + r % 64 by omega])
 · have HF := Lib.hid (bytesOf4 (r := r) (by omega))
   have p1 : bits .or .i32 240 (r / 262144) = 240 + r / 262144 := bits_join .i32 31 (by decide) wraps_i32 4 240 _ (by decide) (by decide) (by decide) (by omega) (by omega) (by omega)
   go_enter Tryz.func184, Tryz.ntmps184
   go_wp2
   go_ret
   exact bytes_out 5 [240 + r / 262144, 128 + r / 4096 % 64, 128 + r / 64 % 64, 128 + r % 64] (by rw [HF.out, show (240 + r / 262144) % 256 = 240 + r / 262144 by omega, show (128 + r / 4096 % 64) % 256 = 128 + r / 4096 % 64 by omega, show (128 + r / 64 % 64) % 256 = 128 + r / 64 % 64 by omega, show (128 + r % 64) % 256 = 128 + r % 64 by omega])
theorem wpList_make_bytes {ops : Array Oper} {rest : List Oper} {o : Oper} {a : Act} {w : World} {Q : Exit -> Act -> World -> Prop} (hgd : o.guard = none) (l c : Operand) (ho : o.op = Op.makeSlice 27 l c)
   (n : Nat) (hl : a.eval l = .int .i64 (n : Int)) (hc : a.eval c = .int .i64 (n : Int)) (hn : n <= 4194306)
   (h : ∀ w', RowAt w' w.heap.size ((List.replicate n (0 : UInt8)).map U8) -> Below w.heap.size w w' -> wpList Tryz.prog ops Q rest (a.put o.dst (.slice (some ⟨w.heap.size, 0, none⟩) n n)) w') : wpList Tryz.prog ops Q (o :: rest) a w :=
 wpList_plain hgd fun K hK => by
   obtain ⟨i0, hi, hz0, hz1, hz2⟩ := info_parts infoByte
   have hr := run_make (P := Tryz.prog) w 27 5 i0 _ Tryz.underlying27 hi hz0 .i64 .i64 (n : Int) (n : Int) (by omega) (by omega) (by rw [hz2]; omega) (by omega)
   simp only [Int.toNat_natCast] at hr
   unfold Oper.wp execOp
   simp only [ho, hl, hc, hr, Sem.run_bind, Sem.run_pure, Result.andThen_ok]
   refine hK _ _ (h _ ?_ ((Below.refl _ _).alloc (Nat.le_refl _) _))
   rw [hz1, Nat.mul_one]
   refine rowAt_of_heap (t := 5) ?_
   have : (madeCells (Value.int .u8 0).cells n) = ((List.replicate n (0 : UInt8)).map U8).toArray := by
     rw [<- Array.toList_inj]
     exact (toList_madeCells_one _ n).trans (by simp [U8])
   rw [<- this]
   exact heap_alloc_new w _
def plD (r k : Nat) : List UInt8 := List.replicate (4 - k) 0 ++ (digs4 r).drop (4 - k)
theorem wraps_u64 (n : Int) (h0 : 0 <= n) (h1 : n < 2 ^ 16) : IntKind.u64.wrap n = n := by
 simp [IntKind.wrap, IntKind.bits, IntKind.signed]; omega
theorem u64_and15 {x : Int} (h0 : 0 <= x) (h1 : x < 65536) : bits .and .u64 x 15 = x % 16 := bits_mask .u64 16 (by decide) wraps_u64 4 (by decide) x h0 h1
theorem hexS_at : ∀ (n : Nat) (h : n < 16), ({ data := #[48, 49, 50, 51, 52, 53, 54, 55, 56, 57, 65, 66, 67, 68, 69, 70] } : ByteArray)[n]'h = hexU n := by decide
set_option maxHeartbeats 1600000 in
theorem digits_l (r : Nat) (w : World) (h : r < 65536) :
   Calls Tryz.prog 183 #[.int .u64 r, .int .i64 4] w fun e w' => e = .returned (.string (B (digs4 r))) /\ Below w.heap.size w w' := by
 have m0 : bits .and .u64 (r : Int) 15 = (r : Int) % 16 := u64_and15 (by omega) (by omega)
 have m1 : bits .and .u64 ((r : Int) / 16) 15 = (r : Int) / 16 % 16 := u64_and15 (by omega) (by omega)
 have m2 : bits .and .u64 ((r : Int) / 256) 15 = (r : Int) / 256 % 16 := u64_and15 (by omega) (by omega)
 have m3 : bits .and .u64 ((r : Int) / 4096) 15 = (r : Int) / 4096 % 16 := u64_and15 (by omega) (by omega)
 go_enter Tryz.func183, Tryz.ntmps183
 go_wp2_with (refine wpList_make_bytes rfl (.tmp 7) (.tmp 7) rfl 4 rfl rfl (by omega) ?_; intro w1 ho hg; have HO := Lib.hid ho; have HG := Lib.hid hg; clear ho hg)
 go_loopw [6, 11] (fun _ i wr => ∃ k : Nat, ∃ z : Int, k <= 4 /\ z = k /\ i = .int .i64 z /\ RowAt wr w.heap.size ((plD r k).map U8) /\ Below w.heap.size w wr) (fun _ i _ => 4 - (intOf i).toNat)
 case atStart => exact ⟨0, 0, by omega, rfl, rfl, HO.out, HG.out⟩
 case round =>
   obtain ⟨k, z, hk, hz, rfl, hR, hb⟩ := hrel
   have ck : k = 0 \/ k = 1 \/ k = 2 \/ k = 3 \/ k = 4 := by omega
   have HR := Lib.hid hR
   have HB := Lib.hid hb
   clear hb
   rcases ck with rfl | rfl | rfl | rfl | rfl
   · obtain rfl : z = 0 := by simpa using hz
     have c0 := hR.cell (j := 3) (by simp [plD, digs4])
     have f0 := hR.free (j := 3) (by simp [plD, digs4])
     clear hR hz hk
     go_wp2_with fail
     rw [hexS_at (r % 16) (by omega)]
     exact ⟨⟨1, 1, by omega, rfl, rfl, HR.out.set_u8 (j := 3) (by simp [plD, digs4]) (hexU (r % 16)), HB.out.setCell (Nat.le_refl _) _⟩, by simp [intOf]⟩
   · obtain rfl : z = 1 := by simpa using hz
     have c0 := hR.cell (j := 2) (by simp [plD, digs4])
     have f0 := hR.free (j := 2) (by simp [plD, digs4])
     clear hR hz hk
     go_wp2_with fail
     rw [hexS_at (r / 16 % 16) (by omega)]
     exact ⟨⟨2, 2, by omega, rfl, rfl, HR.out.set_u8 (j := 2) (by simp [plD, digs4]) (hexU (r / 16 % 16)), HB.out.setCell (Nat.le_refl _) _⟩, by simp [intOf]⟩
   · obtain rfl : z = 2 := by simpa using hz
     have c0 := hR.cell (j := 1) (by simp [plD, digs4])
     have f0 := hR.free (j := 1) (by simp [plD, digs4])
     clear hR hz hk
     go_wp2_with fail
     rw [hexS_at (r / 256 % 16) (by omega)]
     exact ⟨⟨3, 3, by omega, rfl, rfl, HR.out.set_u8 (j := 1) (by simp [plD, digs4]) (hexU (r / 256 % 16)), HB.out.setCell (Nat.le_refl _) _⟩, by simp [intOf]⟩
   · obtain rfl : z = 3 := by simpa using hz
     have c0 := hR.cell (j := 0) (by simp [plD, digs4])
     have f0 := hR.free (j := 0) (by simp [plD, digs4])
     clear hR hz hk
     go_wp2_with fail
     rw [hexS_at (r / 4096 % 16) (by omega)]
     exact ⟨⟨4, 4, by omega, rfl, rfl, HR.out.set_u8 (j := 0) (by simp [plD, digs4]) (hexU (r / 4096 % 16)), HB.out.setCell (Nat.le_refl _) _⟩, by simp [intOf]⟩
   · obtain rfl : z = 4 := by simpa using hz
     have hback := back_of_row (P := Tryz.prog) wr 27 9 5 w.heap.size 4 4 (digs4 r) rfl Tryz.underlying27 Tryz.underlying5 Tryz.underlying9 hR
     clear hR hz hk
     go_wp2_with fail
     go_ret
     exact ⟨rfl, HB.out⟩
def hexI (c : UInt8) : Int := match hexV c with | some v => (v : Int) | none => -1
theorem hex_l (c : UInt8) (w : World) : Calls Tryz.prog 268 #[.int .u8 (c.toNat : Int)] w fun e w' => e = .returned (.int .i64 (hexI c)) /\ w' = w := by
 have hc := c.toNat_lt
 by_cases a : 48 <= c.toNat /\ c.toNat <= 57
 · have HF : Hid (hexI c = (c.toNat : Int) - 48) := Lib.hid (by unfold hexI hexV; rw [if_pos a]; simp only; omega)
   obtain ⟨a1, a2⟩ := a
   go_enter Tryz.func268, Tryz.ntmps268
   go_wp2
   go_ret
   exact ⟨ret_i64 (by have := HF.out; omega), rfl⟩
 by_cases b : 97 <= c.toNat /\ c.toNat <= 102
 · have HF : Hid (hexI c = (c.toNat : Int) - 87) := Lib.hid (by unfold hexI hexV; rw [if_neg a, if_pos b]; simp only; omega)
   clear a
   obtain ⟨b1, b2⟩ := b
   go_enter Tryz.func268, Tryz.ntmps268
   go_wp2
   go_ret
   exact ⟨ret_i64 (by have := HF.out; omega), rfl⟩
 by_cases d : 65 <= c.toNat /\ c.toNat <= 70
 · have HF : Hid (hexI c = (c.toNat : Int) - 55) := Lib.hid (by unfold hexI hexV; rw [if_neg a, if_neg b, if_pos d]; simp only; omega)
   clear a b
   obtain ⟨d1, d2⟩ := d
   go_enter Tryz.func268, Tryz.ntmps268
   go_wp2
   go_ret
   exact ⟨ret_i64 (by have := HF.out; omega), rfl⟩
 · have HF : Hid (hexI c = -1) := Lib.hid (by unfold hexI hexV; rw [if_neg a, if_neg b, if_neg d])
   go_enter Tryz.func268, Tryz.ntmps268
   go_wp2
   all_goals first | omega | (go_ret; exact ⟨ret_i64 HF.out.symm, rfl⟩)
theorem hexI_some {c : UInt8} {d : Nat} (h : hexV c = some d) : hexI c = (d : Int) := by unfold hexI; rw [h]
theorem hexI_none {c : UInt8} (h : hexV c = none) : hexI c = -1 := by unfold hexI; rw [h]
theorem wraps_i64 (n : Int) (h0 : 0 <= n) (h1 : n < 2 ^ 62) : IntKind.i64.wrap n = n := by rw [IntKind.wrap_i64]; omega
theorem i64_or4 {x y : Int} (h0 : 0 <= x) (h1 : x < 2 ^ 62) (hx : x % 16 = 0) (h2 : 0 <= y) (h3 : y < 16) : bits .or .i64 x y = x + y := bits_join .i64 62 (by decide) wraps_i64 4 x y h0 hx h1 h2 h3 (by omega)
def NumOut (t : List UInt8) (k : Nat) (e : Ending) : Prop := ∃ x b, e = .returned (.tuple #[.int .i32 x, .bool b]) /\ b = (numF t k).isSome /\ ∀ r, numF t k = some r -> x = r
theorem NumOut.none {t : List UInt8} {k : Nat} {x : Int} (h : numF t k = none) : NumOut t k (.returned (.tuple #[.int .i32 x, .bool false])) := ⟨x, false, rfl, by rw [h]; rfl, fun r hr => by rw [h] at hr; cases hr⟩
theorem NumOut.some {t : List UInt8} {k : Nat} {x : Int} (h : numF t k = some x) : NumOut t k (.returned (.tuple #[.int .i32 x, .bool true])) := ⟨x, true, rfl, by rw [h]; rfl, fun r hr => by rw [h] at hr; cases hr; rfl⟩
theorem numF_short {t : List UInt8} {k : Nat} (h : t.length < k) : numF t k = none := by
 cases hv : numF t k with
 | none => rfl
 | some r => have := (numF_some hv).1; omega
theorem numV_step {acc n : Nat} {t : List UInt8} {j : Nat} (hj : j < t.length) : numV acc (t.drop j) (n + 1) = (match hexV t[j] with | none => none | some d => numV (acc * 16 + d) (t.drop (j + 1)) n) := by
 rw [List.drop_eq_getElem_cons hj, numV]
 cases hexV t[j] <;> rfl
theorem numF_of {t : List UInt8} {k v : Nat} (h : numV 0 t k = some v) : numF t k = if scal v = true then some (v : Int) else none := by unfold numF; rw [h]
theorem numF_none {t : List UInt8} {k : Nat} (h : numV 0 t k = none) : numF t k = none := by unfold numF; rw [h]
theorem scal_big {v : Int} (h : 1114111 < v) : ¬ scal v = true := by unfold scal; simp; omega
set_option maxHeartbeats 1600000 in
theorem number_l (t : List UInt8) (k : Nat) (w : World) (hk : k <= 8) (hl : t.length <= 4611686018427387904) :
   Calls Tryz.prog 265 #[.string (B t), .int .i64 k] w fun e w' => NumOut t k e /\ w' = w := by
 have HX := Lib.hid hex_l; have SC := Lib.hid scalar_any
 by_cases hs : t.length < k
 · have HF := Lib.hid (numF_short hs)
   go_enter Tryz.func265, Tryz.ntmps265
   go_wp2
   go_ret2
   exact ⟨.none HF.out, rfl⟩
 go_enter Tryz.func265, Tryz.ntmps265
 go_wp2_with fail
 go_loop [6, 14] (fun a i => ∃ acc j : Nat, j <= k /\ acc < 16 ^ j /\ a = .int .i64 acc /\ i = .int .i64 j /\ Hid (numV 0 t k = numV acc (t.drop j) (k - j))) (fun _ i => k - (intOf i).toNat)
 case atStart => exact ⟨0, 0, Nat.zero_le _, by decide, rfl, rfl, Lib.hid rfl⟩
 case round =>
   obtain ⟨acc, j, hj, ha, rfl, rfl, HN⟩ := hrel
   have hp : 16 ^ j <= 16 ^ 8 := Nat.pow_le_pow_right (by decide) (by omega)
   have ha8 : acc < 4294967296 := Nat.lt_of_lt_of_le ha hp
   have HA := Lib.hid ha
   clear ha hp
   by_cases hlt : j < k
   · have hjl : j < t.length := by omega
     obtain ⟨m, hm⟩ : ∃ m, k - j = m + 1 := ⟨k - j - 1, by omega⟩
     have st := numV_step (acc := acc) (n := m) hjl
     rw [<- hm] at st
     cases hd : hexV t[j] with
     | none =>
       have HE := Lib.hid (numF_none (HN.out.trans (by rw [st, hd])))
       have N2 := Lib.hid (fun u => hexI_none hd ▸ HX.out t[j] u)
       clear st hd HN HX hm
       go_wp2_with (go_at_call 268; (with_reducible refine (N2.out _).mono ?_); rintro e w1 ⟨rfl, rfl⟩)
       go_ret2
       exact ⟨.none HE.out, rfl⟩
     | some d =>
       have hd16 := hexV_lt hd
       have HE : Hid (numV 0 t k = numV (acc * 16 + d) (t.drop (j + 1)) (k - (j + 1))) := Lib.hid (HN.out.trans (by rw [st, hd, show k - (j + 1) = m by omega]))
       have N2 := Lib.hid (fun u => hexI_some hd ▸ HX.out t[j] u)
       have o1 : bits .or .i64 ((acc : Int) * 16) (d : Int) = (acc : Int) * 16 + d := i64_or4 (by omega) (by omega) (by omega) (by omega) (by omega)
       have d0 : ((d : Int) < 0) = False := by simp
       clear st hd HN HX hm
       go_wp2_with (go_at_call 268; (with_reducible refine (N2.out _).mono ?_); rintro e w1 ⟨rfl, rfl⟩)
       refine ⟨⟨acc * 16 + d, j + 1, by omega, ?_, by go_num, by go_num, HE⟩, by simp [intOf]; omega⟩
       rw [Nat.pow_succ]
       have := HA.out
       omega
   · obtain rfl : j = k := by omega
     have HE := Lib.hid (numF_of (HN.out.trans (by rw [Nat.sub_self, numV])))
     clear HN
     by_cases hbig : acc <= 1114111
     · cases hsc : scal (acc : Int) with
       | true =>
         have H3 := Lib.hid (HE.out.trans (if_pos hsc))
         have N3 := Lib.hid (fun u => hsc ▸ SC.out (acc : Int) u)
         clear HE hsc SC
         go_wp2_with (go_at_call 217; (with_reducible refine (N3.out _).mono ?_); rintro e w1 ⟨rfl, rfl⟩)
         go_ret2
         exact ⟨.some H3.out, rfl⟩
       | false =>
         have H3 := Lib.hid (HE.out.trans (if_neg (by rw [hsc]; exact Bool.false_ne_true)))
         have N3 := Lib.hid (fun u => hsc ▸ SC.out (acc : Int) u)
         clear HE hsc SC
         go_wp2_with (go_at_call 217; (with_reducible refine (N3.out _).mono ?_); rintro e w1 ⟨rfl, rfl⟩)
         go_ret2
         exact ⟨.none H3.out, rfl⟩
     · have H3 := Lib.hid (HE.out.trans (if_neg (scal_big (by omega))))
       clear HE
       go_wp2_with fail
       go_ret2
       exact ⟨.none H3.out, rfl⟩
end Go.Proofs.YtmnigckpejcaeaaGreatDoor
namespace Go.Proofs.YtmnigckpejcaeaaGreatDoor
open Go.RowKit
set_option maxRecDepth 100000
def letS : ByteArray := { data := #[116, 98, 110, 114, 102, 34, 39, 92] }
def meanS : ByteArray := { data := #[9, 8, 10, 13, 12, 34, 39, 92] }
def badS : ByteArray := { data := #[60, 62, 34, 123, 125, 124, 94, 96, 92] }
theorem ix_at (s : ByteArray) (c : Int) (k : Int) (h : Lib.indexByte s.data.toList c.toNat.toUInt8 = k) (u : World) :
   Calls Tryz.prog 152 #[.string s, .int .u8 c] u fun e w' => e = .returned (.int .i64 k) /\ w' = u := h ▸ Tryz.strings_IndexByte s c u
theorem mean_none (r : Int) (h0 : 0 <= r) (h1 : r < 128) (h2 : r ≠ 39) (h3 : letF r = none) : Lib.indexByte meanS.data.toList r.toNat.toUInt8 = -1 := by
 have h : ∀ n < 128, n ≠ 39 -> (letF ((n : Nat) : Int)).isNone = true -> Lib.indexByte meanS.data.toList (((n : Nat) : Int).toNat.toUInt8) = -1 := by decide +kernel
 obtain ⟨n, rfl⟩ := Int.eq_ofNat_of_zero_le h0
 exact h n (by omega) (by omega) (by rw [h3]; rfl)
theorem bad_ix (r : Int) (h0 : 0 <= r) (h1 : r < 128) : decide (0 <= Lib.indexByte badS.data.toList r.toNat.toUInt8) = decide (r ∈ badA) := by
 have h : ∀ n < 128, decide (0 <= Lib.indexByte badS.data.toList (((n : Nat) : Int).toNat.toUInt8)) = decide (((n : Nat) : Int) ∈ badA) := by decide +kernel
 obtain ⟨n, rfl⟩ := Int.eq_ofNat_of_zero_le h0
 exact h n (by omega)
theorem badA_low {r : Int} (h : r ∈ badA) : r < 128 := by
 simp [badA] at h; omega
theorem letF_some {r : Int} {c : UInt8} (h : letF r = some c) : (r = 9 /\ c = 116) \/ (r = 8 /\ c = 98) \/ (r = 10 /\ c = 110) \/ (r = 13 /\ c = 114) \/ (r = 12 /\ c = 102) \/ (r = 34 /\ c = 34) \/ (r = 92 /\ c = 92) := by
 unfold letF at h
 repeat' (first | (split at h; · next e => cases h; simp [e]) | cases h)
theorem letF_high {r : Int} (h : 128 <= r) : letF r = none := by
 unfold letF
 repeat' (first | rw [if_neg (by omega)] | rfl)
theorem letF_39 : letF 39 = none := by decide
theorem wr_u (way r : Int) (n : Nat) (h : wrF way r = 92 :: 117 :: digs4 n) : Value.string ({ data := #[92, 117] } ++ B (digs4 n)) = .string (B (wrF way r)) := by
 rw [h]
 exact congrArg Value.string (B_append [92, 117] (digs4 n))
theorem bytesOf_pos (r : Int) : 0 < (bytesOf r).length := by
 rw [bytesOf_len]
 split <;> (try split) <;> (try split) <;> omega
set_option maxHeartbeats 3200000 in
theorem written_l (way r : Int) (w : World) (h0 : 0 <= r) (h1 : r <= 1114111) :
   Calls Tryz.prog 140 #[.int .i32 r, .int .i64 way] w fun e w' => e = .returned (.string (B (wrF way r))) /\ Below w.heap.size w w' := by
 obtain ⟨n, hn⟩ := Int.eq_ofNat_of_zero_le h0
 have BY := Lib.hid (fun u => utfBytes_l r u h0 h1)
 by_cases hw : way = 1
 · subst hw
   by_cases h128 : r < 128
   · by_cases h39 : r = 39
     · have HF : Hid (wrF 1 r = byU r) := Lib.hid (by unfold wrF; rw [if_pos rfl, h39, letF_39]; rfl)
       have e39 : (r == 39) = true := by rw [h39]; rfl
       have n39 : (r != 39) = false := by rw [h39]; rfl
       have e127 : (r == 127) = false := by rw [h39]; rfl
       have d32 : ¬ r < 32 := by omega
       clear h39 hn
       go_enter Tryz.func140, Tryz.ntmps140
       go_wp2_with (go_at_call 184; (with_reducible refine (BY.out _).mono ?_); rintro e w1 ⟨cp, rfl, ha, hb⟩; have hback := conv_at (P := Tryz.prog) w1 27 9 5 _ cp _ (byU r) (bytesU_length r) (bytesOf_pos r) Tryz.underlying27 Tryz.underlying5 Tryz.underlying9 (bytesU_cells r ▸ ha); have HB := Lib.hid hb; clear ha hb)
       go_ret
       exact ⟨by rw [HF.out]; rfl, HB.out⟩
     have e39 : (r == 39) = false := beq_eq_false_iff_ne.2 h39
     have n39 : (r != 39) = true := bne_iff_ne.2 h39
     cases hl : letF r with
     | some c =>
       have HF : Hid (wrF 1 r = [92, c]) := Lib.hid (by unfold wrF; rw [if_pos rfl, hl])
       have hc := letF_some hl
       clear hl h39 hn e39 n39 h128 h0 h1 BY
       rcases hc with ⟨rfl, rfl⟩ | ⟨rfl, rfl⟩ | ⟨rfl, rfl⟩ | ⟨rfl, rfl⟩ | ⟨rfl, rfl⟩ | ⟨rfl, rfl⟩ | ⟨rfl, rfl⟩
       · have IX := Lib.hid (ix_at meanS 9 0 (by decide))
         unfold meanS at IX
         go_enter Tryz.func140, Tryz.ntmps140
         go_wp2_with (go_at_call 152; (with_reducible refine (IX.out _).mono ?_); rintro e w0 ⟨rfl, rfl⟩)
         go_ret
         exact ⟨by rw [HF.out]; rfl, Below.refl _ _⟩
       · have IX := Lib.hid (ix_at meanS 8 1 (by decide))
         unfold meanS at IX
         go_enter Tryz.func140, Tryz.ntmps140
         go_wp2_with (go_at_call 152; (with_reducible refine (IX.out _).mono ?_); rintro e w0 ⟨rfl, rfl⟩)
         go_ret
         exact ⟨by rw [HF.out]; rfl, Below.refl _ _⟩
       · have IX := Lib.hid (ix_at meanS 10 2 (by decide))
         unfold meanS at IX
         go_enter Tryz.func140, Tryz.ntmps140
         go_wp2_with (go_at_call 152; (with_reducible refine (IX.out _).mono ?_); rintro e w0 ⟨rfl, rfl⟩)
         go_ret
         exact ⟨by rw [HF.out]; rfl, Below.refl _ _⟩
       · have IX := Lib.hid (ix_at meanS 13 3 (by decide))
         unfold meanS at IX
         go_enter Tryz.func140, Tryz.ntmps140
         go_wp2_with (go_at_call 152; (with_reducible refine (IX.out _).mono ?_); rintro e w0 ⟨rfl, rfl⟩)
         go_ret
         exact ⟨by rw [HF.out]; rfl, Below.refl _ _⟩
       · have IX := Lib.hid (ix_at meanS 12 4 (by decide))
         unfold meanS at IX
         go_enter Tryz.func140, Tryz.ntmps140
         go_wp2_with (go_at_call 152; (with_reducible refine (IX.out _).mono ?_); rintro e w0 ⟨rfl, rfl⟩)
         go_ret
         exact ⟨by rw [HF.out]; rfl, Below.refl _ _⟩
       · have IX := Lib.hid (ix_at meanS 34 5 (by decide))
         unfold meanS at IX
         go_enter Tryz.func140, Tryz.ntmps140
         go_wp2_with (go_at_call 152; (with_reducible refine (IX.out _).mono ?_); rintro e w0 ⟨rfl, rfl⟩)
         go_ret
         exact ⟨by rw [HF.out]; rfl, Below.refl _ _⟩
       · have IX := Lib.hid (ix_at meanS 92 7 (by decide))
         unfold meanS at IX
         go_enter Tryz.func140, Tryz.ntmps140
         go_wp2_with (go_at_call 152; (with_reducible refine (IX.out _).mono ?_); rintro e w0 ⟨rfl, rfl⟩)
         go_ret
         exact ⟨by rw [HF.out]; rfl, Below.refl _ _⟩
     | none =>
       have IX := Lib.hid (ix_at meanS r (-1) (mean_none r h0 h128 h39 hl))
       unfold meanS at IX
       by_cases hu : r < 32 \/ r = 127
       · have HF : Hid (wrF 1 r = 92 :: 117 :: digs4 n) := Lib.hid (by unfold wrF; rw [if_pos rfl, hl]; simp only; rw [if_pos hu, hn]; rfl)
         have hn2 : n < 128 := by omega
         clear BY hl h39
         rcases hu with hu | hu
         · have DG := Lib.hid (fun u => digits_l n u (by omega))
           clear h1
           subst hn
           go_enter Tryz.func140, Tryz.ntmps140
           go_wp2_with first | (go_at_call 152; (with_reducible refine (IX.out _).mono ?_); rintro e w0 ⟨rfl, rfl⟩) | (go_at_call 183; (with_reducible refine (DG.out _).mono ?_); rintro e w1 ⟨rfl, hb⟩; have HB := Lib.hid hb; clear hb)
           go_ret
           exact ⟨congrArg Ending.returned (wr_u _ _ _ HF.out), HB.out⟩
         · subst hu
           obtain rfl : n = 127 := by omega
           have DG : Hid (∀ u, Calls Tryz.prog 183 #[.int .u64 127, .int .i64 4] u fun e w' => e = .returned (.string (B (digs4 127))) /\ Below u.heap.size u w') := Lib.hid (fun u => digits_l 127 u (by decide))
           clear hn h0 h1 h128 e39 n39 hn2
           go_enter Tryz.func140, Tryz.ntmps140
           go_wp2_with first | (go_at_call 152; (with_reducible refine (IX.out _).mono ?_); rintro e w0 ⟨rfl, rfl⟩) | (go_at_call 183; (with_reducible refine (DG.out _).mono ?_); rintro e w1 ⟨rfl, hb⟩; have HB := Lib.hid hb; clear hb)
           go_ret
           exact ⟨congrArg Ending.returned (wr_u _ _ _ HF.out), HB.out⟩
       · have HF : Hid (wrF 1 r = byU r) := Lib.hid (by unfold wrF; rw [if_pos rfl, hl]; simp only; rw [if_neg hu])
         have e127 : (r == 127) = false := beq_eq_false_iff_ne.2 (fun e => hu (.inr e))
         have d32 : ¬ r < 32 := fun e => hu (.inl e)
         clear hl h39 hu hn
         go_enter Tryz.func140, Tryz.ntmps140
         go_wp2_with first | (go_at_call 152; (with_reducible refine (IX.out _).mono ?_); rintro e w0 ⟨rfl, rfl⟩) | (go_at_call 184; (with_reducible refine (BY.out _).mono ?_); rintro e w1 ⟨cp, rfl, ha, hb⟩; have hback := conv_at (P := Tryz.prog) w1 27 9 5 _ cp _ (byU r) (bytesU_length r) (bytesOf_pos r) Tryz.underlying27 Tryz.underlying5 Tryz.underlying9 (bytesU_cells r ▸ ha); have HB := Lib.hid hb; clear ha hb)
         go_ret
         exact ⟨by rw [HF.out]; rfl, HB.out⟩
   · have HF : Hid (wrF 1 r = byU r) := Lib.hid (by unfold wrF; rw [if_pos rfl, letF_high (by omega)]; simp only; rw [if_neg (by omega)])
     have e127 : (r == 127) = false := beq_eq_false_iff_ne.2 (by omega)
     have d32 : ¬ r < 32 := by omega
     clear hn
     go_enter Tryz.func140, Tryz.ntmps140
     go_wp2_with (go_at_call 184; (with_reducible refine (BY.out _).mono ?_); rintro e w1 ⟨cp, rfl, ha, hb⟩; have hback := conv_at (P := Tryz.prog) w1 27 9 5 _ cp _ (byU r) (bytesU_length r) (bytesOf_pos r) Tryz.underlying27 Tryz.underlying5 Tryz.underlying9 (bytesU_cells r ▸ ha); have HB := Lib.hid hb; clear ha hb)
     go_ret
     exact ⟨by rw [HF.out]; rfl, HB.out⟩
 have ew : (way == 1) = false := beq_eq_false_iff_ne.2 hw
 have nw : (way != 1) = true := bne_iff_ne.2 hw
 by_cases h32 : r <= 32
 · have HF : Hid (wrF way r = 92 :: 117 :: digs4 n) := Lib.hid (by unfold wrF; rw [if_neg hw, if_pos (.inl h32), hn]; rfl)
   have DG := Lib.hid (fun u => digits_l n u (by omega))
   subst hn
   clear BY hw h1
   go_enter Tryz.func140, Tryz.ntmps140
   go_wp2_with (go_at_call 183; (with_reducible refine (DG.out _).mono ?_); rintro e w1 ⟨rfl, hb⟩; have HB := Lib.hid hb; clear hb)
   go_ret
   exact ⟨congrArg Ending.returned (wr_u _ _ _ HF.out), HB.out⟩
 by_cases h128 : r < 128
 · obtain ⟨k, hk⟩ : ∃ k, Lib.indexByte badS.data.toList r.toNat.toUInt8 = k := ⟨_, rfl⟩
   have hb := bad_ix r h0 h128
   rw [hk] at hb
   have IX := Lib.hid (ix_at badS r k hk)
   unfold badS at IX
   clear hk
   by_cases hm : r ∈ badA
   · have HF : Hid (wrF way r = 92 :: 117 :: digs4 n) := Lib.hid (by unfold wrF; rw [if_neg hw, if_pos (.inr hm), hn]; rfl)
     have DG := Lib.hid (fun u => digits_l n u (by omega))
     have k0 : 0 <= k := by rw [decide_eq_true hm] at hb; exact of_decide_eq_true hb
     subst hn
     clear BY hw hm hb h1
     go_enter Tryz.func140, Tryz.ntmps140
     go_wp2_with first | (go_at_call 152; (with_reducible refine (IX.out _).mono ?_); rintro e w0 ⟨rfl, rfl⟩) | (go_at_call 183; (with_reducible refine (DG.out _).mono ?_); rintro e w1 ⟨rfl, hb⟩; have HB := Lib.hid hb; clear hb)
     go_ret
     exact ⟨congrArg Ending.returned (wr_u _ _ _ HF.out), HB.out⟩
   · have HF : Hid (wrF way r = byU r) := Lib.hid (by unfold wrF; rw [if_neg hw, if_neg (not_or.2 ⟨h32, hm⟩)])
     have k0 : ¬ 0 <= k := by rw [decide_eq_false hm] at hb; exact of_decide_eq_false hb
     clear hw hm hb hn
     go_enter Tryz.func140, Tryz.ntmps140
     go_wp2_with first | (go_at_call 152; (with_reducible refine (IX.out _).mono ?_); rintro e w0 ⟨rfl, rfl⟩) | (go_at_call 184; (with_reducible refine (BY.out _).mono ?_); rintro e w1 ⟨cp, rfl, ha, hb⟩; have hback := conv_at (P := Tryz.prog) w1 27 9 5 _ cp _ (byU r) (bytesU_length r) (bytesOf_pos r) Tryz.underlying27 Tryz.underlying5 Tryz.underlying9 (bytesU_cells r ▸ ha); have HB := Lib.hid hb; clear ha hb)
     go_ret
     exact ⟨by rw [HF.out]; rfl, HB.out⟩
 · have HF : Hid (wrF way r = byU r) := Lib.hid (by unfold wrF; rw [if_neg hw, if_neg (not_or.2 ⟨h32, fun hm => h128 (badA_low hm)⟩)])
   clear hw hn
   go_enter Tryz.func140, Tryz.ntmps140
   go_wp2_with (go_at_call 184; (with_reducible refine (BY.out _).mono ?_); rintro e w1 ⟨cp, rfl, ha, hb⟩; have hback := conv_at (P := Tryz.prog) w1 27 9 5 _ cp _ (byU r) (bytesU_length r) (bytesOf_pos r) Tryz.underlying27 Tryz.underlying5 Tryz.underlying9 (bytesU_cells r ▸ ha); have HB := Lib.hid hb; clear ha hb)
   go_ret
   exact ⟨by rw [HF.out]; rfl, HB.out⟩
end Go.Proofs.YtmnigckpejcaeaaGreatDoor
namespace Go.Proofs.YtmnigckpejcaeaaGreatDoor
open Go.RowKit
set_option maxRecDepth 100000
theorem BuildsB.heapsame {u u' : World} {B_ b : Nat} {l : List UInt8} (h : BuildsB u B_ b l) (hk : ∀ k, k < u.heap.size -> u'.heap[k]? = u.heap[k]?) : BuildsB u' B_ b l := by
 have key : ∀ p, Lib.BuilderAt 129 5 B_ b p (l.map U8) u -> Lib.BuilderAt 129 5 B_ b p (l.map U8) u' := by
   rintro p ⟨hB, v, hb, hown, hne⟩
   refine ⟨hB, v, (hk b (Array.getElem?_eq_some_iff.1 hb).1).trans hb, ⟨hown.1, ?_⟩, hne⟩
   rcases hown.2 with h2 | ⟨g, cap, cur, h1, h2, h3, h4⟩
   · exact .inl h2
   · exact .inr ⟨g, cap, cur, h1, h2, (hk g (Array.getElem?_eq_some_iff.1 h3).1).trans h3, h4⟩
 exact h.elim (fun x => .inl (key _ x)) (fun x => .inr (key _ x))
theorem BuildsB.below {u u' : World} {B_ b : Nat} {l : List UInt8} (h : BuildsB u B_ b l) (hb : Below u.heap.size u u') : BuildsB u' B_ b l := h.heapsame fun k hk => hb.block k hk
def RangeB (w wr : World) (l acc : List UInt8) (j : Nat) : Prop := BuildsB wr w.heap.size w.heap.size acc /\ Below w.heap.size w wr /\ wr.heap[w.heap.size + 1]? = some (.stringIter (B l) j)
theorem rangeB_start (w : World) (l : List UInt8) : RangeB w ((w.alloc (.cells #[.pointer none, .slice none 0 0] 129)).iter (B l) 0) l [] 0 := by
 have h1 : BuildsB (w.alloc (.cells #[.pointer none, .slice none 0 0] 129)) w.heap.size w.heap.size [] := Lib.fresh_isBuilder _ _ _
 refine ⟨h1.heapsame fun k hk => Lib.alloc_old _ _ _ hk, ((Below.refl _ _).alloc (Nat.le_refl _) _).alloc (by simp) _, ?_⟩
 have := heap_alloc_new (w.alloc (.cells #[.pointer none, .slice none 0 0] 129)) (.stringIter (B l) 0)
 rw [show (w.alloc (.cells #[.pointer none, .slice none 0 0] 129)).heap.size = w.heap.size + 1 by simp] at this
 exact this
theorem RangeB.next {w wr : World} {l acc : List UInt8} {j : Nat} (h : RangeB w wr l acc j) (k : Nat) : RangeB w (wr.iterAt (w.heap.size + 1) (B l) k) l acc k :=
 ⟨h.1.iterAt h.2.2 k, Lib.below_iterAt h.2.1 (by omega) _ _, Lib.iterAt_heap _ _ _ _ _ h.2.2⟩
theorem RangeB.below {w u u' : World} {l acc : List UInt8} {j : Nat} (h : RangeB w u l acc j) (hb : Below u.heap.size u u') : RangeB w u' l acc j :=
 ⟨h.1.below hb, h.2.1.trans (hb.mono h.2.1.size), (hb.block _ (Array.getElem?_eq_some_iff.1 h.2.2).1).trans h.2.2⟩
theorem RangeB.wrote {w u u' : World} {l acc m : List UInt8} {j : Nat} (h : RangeB w u l acc j) (h1 : BuildsB u' w.heap.size w.heap.size (acc ++ m)) (h2 : Below w.heap.size u u') (h3 : Lib.OthersKept 5 (some w.heap.size) u u') : RangeB w u' l (acc ++ m) j :=
 ⟨h1, h.2.1.trans h2, h3.iter h.2.2 (by omega)⟩
set_option maxHeartbeats 1600000 in
theorem escape_ok (way : Int) (l : List UInt8) (w : World) (hl : l.length <= 16777216) (hu : utfF l 0 = -1) :
   Calls Tryz.prog 106 #[.string (B l), .int .i64 way] w fun e w' => e = .returned (.tuple #[.string (B (escF way l 0)), .nilIface]) /\ Below w.heap.size w w' := by
 have CH : Hid (∀ u, Calls Tryz.prog 136 #[.string (B l)] u fun e w' => e = .returned (.int .i64 (-1)) /\ w' = u) := Lib.hid (fun u => hu ▸ utfCheck_l l u (by omega))
 have WR := Lib.hid (fun (v : Int) (h0 : 0 <= v) (h1 : v <= 1114111) (u : World) => written_l way v u h0 h1)
 have WS := Lib.hid writeStringK_l
 have ST := Lib.hid builderString_l
 have HU := Lib.hid hu
 clear hu
 go_enter Tryz.func106, Tryz.ntmps106
 go_wp2_with (go_at_call 136; (with_reducible refine (CH.out _).mono ?_); rintro e w1 ⟨rfl, hw1⟩; obtain rfl := hw1.symm)
 go_loopw [9] (fun _ wr => ∃ (j : Nat) (acc : List UInt8), j <= l.length /\ acc.length <= 6 * j /\ Hid (escF way l 0 = acc ++ escF way l j) /\ Hid (utfF l j = -1) /\ Hid (RangeB w wr l acc j)) (fun _ wr => l.length - wr.iterPos (w.heap.size + 1))
 case atStart => exact ⟨0, [], Nat.zero_le _, Nat.zero_le _, Lib.hid rfl, HU, Lib.hid (rangeB_start w l)⟩
 case round =>
   obtain ⟨j, acc, hj, hacc, HS, HV, HR⟩ := hrel
   by_cases hlt : j < l.length
   · obtain ⟨v, n, hq⟩ : ∃ v n, nextAt l (j : Int) = (v, n) := ⟨_, _, rfl⟩
     have hn : n ≠ 0 := by
       rintro rfl
       have := HV.out
       rw [utfF_bad hlt hq] at this
       omega
     have hbd := nextAt_bound hq hn
     have hjn : j + n <= l.length := by omega
     have HE : Hid (escF way l 0 = (acc ++ wrF way v) ++ escF way l (j + n)) := Lib.hid (by rw [HS.out, escF_go hlt hq hn, List.append_assoc])
     have HW : Hid (utfF l (j + n) = -1) := Lib.hid (by have := HV.out; rw [utfF_go hlt hq hn] at this; exact this)
     have hnx := fun ty => Lib.run_next_any_at (P := Tryz.prog) wr (w.heap.size + 1) (B l) j ty HR.out.2.2 (by rw [B_size]; exact hlt)
     rw [decode_next hq hn] at hnx
     simp only [Int.toNat_of_nonneg hbd.2.2.1] at hnx
     have HR2 := Lib.hid (HR.out.next (j + n))
     have W2 := Lib.hid (fun u => WR.out v hbd.2.2.1 hbd.2.2.2 u)
     have HQ := Lib.hid (HR.out.2.2)
     have hlw := wrF_len way v
     have hlx : acc.length + (wrF way v).length <= 140737488355328 := by omega
     have h0n : 0 < n := by omega
     have HP : Hid (acc.length + (wrF way v).length <= 6 * (j + n)) := Lib.hid (by omega)
     clear HS HV HR hq hn hbd WR hlw
     go_wp2_with (first
       | (go_at_call 140; (with_reducible refine (W2.out _).mono ?_); rintro e w2 ⟨rfl, hb2⟩; have HR3 := Lib.hid (HR2.out.below hb2); clear hb2)
       | (go_at_call 73; (refine (WS.out _ _ acc _ _ HR3.out.1 ?c1 HR3.out.2.1.size).mono ?_); rotate_left; rintro e w4 ⟨rfl, h1, h2, h3⟩; have HR4 := Lib.hid (HR3.out.wrote h1 h2 h3); clear h1 h2 h3))
     case c1 => exact hlx
     go_roundw
     case rel => exact ⟨j + n, acc ++ wrF way v, hjn, by have := HP.out; simp; omega, HE, HW, HR4⟩
     case measure =>
       rw [iterPos_of HR4.out.2.2, iterPos_of HQ.out]
       omega
   · have hnx := fun ty => Lib.run_next_end_at (P := Tryz.prog) wr (w.heap.size + 1) (B l) j ty HR.out.2.2 (by rw [B_size]; exact hlt)
     have HE : Hid (escF way l 0 = acc) := Lib.hid (by rw [HS.out, escF_end (by omega), List.append_nil])
     clear HS HV
     go_wp2_with (go_at_call 74; (refine (ST.out _ _ acc _ HR.out.1 HR.out.2.1.size).mono ?_); rintro e w5 ⟨rfl, hb5⟩; have HB5 := Lib.hid (HR.out.2.1.trans hb5); clear hb5)
     go_ret2
     exact ⟨by rw [HE.out]; rfl, HB5.out⟩
end Go.Proofs.YtmnigckpejcaeaaGreatDoor
