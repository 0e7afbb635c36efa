/-
  A text with a rune that is barred is a text with a byte that is barred. Plain. By an AI agent.
-/
import Derived.Test.YtmnigckpejcaeaaGreatDoorZTerm0
import Derived.Lib.DecodeN
import Derived.Lib.MapLaws
import Derived.Laws.RangeString
import Derived.Shelf.GgClosure.StringsIndexFunc
import Derived.Test.YtmnigckpejcaeaaGreatDoorShelf
import Derived.Test.YtmnigckpejcaeaaGreatDoorZGTag1
import Derived.Laws.Runes
import Derived.Shelf.Strings.FuncGrows
import Derived.BigQuiet
import Derived.Deep.QuietTactic
namespace Go.Proofs.YtmnigckpejcaeaaGreatDoor
open Go.RowKit
set_option maxRecDepth 100000
theorem get_B (l : List UInt8) (i : Nat) (h : i < l.length) : (B l).get! i = l[i] := by
 show (B l).data[i]! = _
 rw [getElem!_pos _ _ (by simpa [B] using h)]
 simp [B]
theorem dec_step (l : List UInt8) (pos : Nat) (h : pos < l.length) :
   (l[pos].toNat < 128 /\ Utf8.decode (B l) pos = (l[pos].toNat, 1)) \/
   (128 <= (Utf8.decode (B l) pos).1 /\ 1 <= (Utf8.decode (B l) pos).2 /\ pos + (Utf8.decode (B l) pos).2 <= l.length /\ ∀ k (hk : k < l.length), pos <= k -> k < pos + (Utf8.decode (B l) pos).2 -> 128 <= l[k].toNat) := by
 have hs : (B l).size = l.length := B_size l
 by_cases ha : l[pos].toNat < 128
 · refine .inl ⟨ha, ?_⟩
   have := decode_ascii (B l) pos (by rw [hs]; exact h) (by rw [B_get]; exact ha)
   rw [this, B_get]
 refine .inr ?_
 rw [Lib.decode_at, hs, get_B l pos h]
 have hg : ∀ j, pos + j < l.length -> ((B l).get! (pos + j)).toNat = (l.getD (pos + j) 0).toNat := fun j hj => by
   rw [get_B l _ hj, List.getD_eq_getElem?_getD, List.getElem?_eq_getElem hj]; rfl
 rcases Lib.decodeN_shape (l.length - pos) l[pos].toNat ((B l).get! (pos + 1)).toNat ((B l).get! (pos + 2)).toNat ((B l).get! (pos + 3)).toNat with ⟨c, e⟩ | ⟨c1, c2, c3, cv, e⟩ | ⟨c1, c2, c3, c4, cv, cs, e⟩ | ⟨c1, c2, c3, c4, c5, cv, cw, e⟩ | e
 · exact absurd c ha
 · rw [e]
   rw [get_B l _ (by omega)] at c3
   refine ⟨by simp only; omega, by simp, by simp only; omega, fun k hk h1 h2 => ?_⟩
   simp only at h2
   have : k = pos \/ k = pos + 1 := by omega
   rcases this with rfl | rfl <;> omega
 · rw [e]
   rw [get_B l _ (by omega)] at c3
   rw [get_B l _ (by omega)] at c4
   refine ⟨by simp only; omega, by simp, by simp only; omega, fun k hk h1 h2 => ?_⟩
   simp only at h2
   have : k = pos \/ k = pos + 1 \/ k = pos + 2 := by omega
   rcases this with rfl | rfl | rfl <;> omega
 · rw [e]
   rw [get_B l _ (by omega)] at c3
   rw [get_B l _ (by omega)] at c4
   rw [get_B l _ (by omega)] at c5
   refine ⟨by simp only; omega, by simp, by simp only; omega, fun k hk h1 h2 => ?_⟩
   simp only at h2
   have : k = pos \/ k = pos + 1 \/ k = pos + 2 \/ k = pos + 3 := by omega
   rcases this with rfl | rfl | rfl | rfl <;> omega
 · rw [e]
   refine ⟨by simp, by simp, by simp only; omega, fun k hk h1 h2 => ?_⟩
   simp only at h2
   have : k = pos := by omega
   subst this
   omega
def barR (x : Nat) : Bool := decide (x <= 32) || [60, 62, 34, 123, 125, 124, 94, 92, 96].contains x
theorem barR_byte (c : UInt8) : barR c.toNat = barC c := by
 have h : ∀ n : Fin 256, barR n.val = barC (UInt8.ofNat n.val) := by decide +kernel
 have := h ⟨c.toNat, c.toNat_lt⟩
 simpa using this
theorem barR_high {x : Nat} (h : 128 <= x) : barR x = false := by
 unfold barR
 rw [decide_eq_false (by omega), Bool.false_or, Bool.eq_false_iff]
 intro hc
 simp at hc
 omega
theorem barC_high {c : UInt8} (h : 128 <= c.toNat) : barC c = false := by rw [<- barR_byte]; exact barR_high h
theorem any_skip (f : UInt8 -> Bool) (l : List UInt8) : ∀ (w pos : Nat), pos + w <= l.length -> (∀ k (hk : k < l.length), pos <= k -> k < pos + w -> f l[k] = false) -> (l.drop pos).any f = (l.drop (pos + w)).any f
 | 0, pos, _, _ => rfl
 | w + 1, pos, h, hf => by
   rw [List.drop_eq_getElem_cons (by omega), List.any_cons, hf pos (by omega) (Nat.le_refl _) (by omega), Bool.false_or, any_skip f l w (pos + 1) (by omega) (fun k hk h1 h2 => hf k hk (by omega) (by omega)), show pos + 1 + w = pos + (w + 1) by omega]
theorem idx_bar (l : List UInt8) : ∀ (f pos : Nat), l.length <= pos + f -> decide (0 <= Lib.idxFuncFrom barR true (B l) f pos) = (l.drop pos).any barC
 | 0, pos, h => by
   rw [Lib.idxFuncFrom, List.drop_of_length_le (by omega)]; rfl
 | f + 1, pos, h => by
   have hs : (B l).size = l.length := B_size l
   rw [Lib.idxFuncFrom, hs]
   by_cases hp : pos < l.length
   · rw [if_pos hp]
     rcases dec_step l pos hp with ⟨_, e⟩ | ⟨h1, h2, h3, h4⟩
     · rw [e]
       simp only
       rw [barR_byte, List.drop_eq_getElem_cons hp, List.any_cons]
       cases hb : barC l[pos] with
       | true => rw [if_pos rfl, Bool.true_or, decide_eq_true]; omega
       | false => rw [if_neg (by simp), Bool.false_or, idx_bar l f (pos + 1) (by omega)]
     · rw [barR_high h1, if_neg (by simp), idx_bar l f _ (by omega), <- any_skip barC l _ pos h3 (fun k hk a b => barC_high (h4 k hk a b))]
   · rw [if_neg hp, List.drop_of_length_le (by omega)]; rfl
theorem idx_any (l : List UInt8) : decide (0 <= Lib.idxFunc barR true (B l)) = l.any barC := by
 unfold Lib.idxFunc
 rw [idx_bar l _ 0 (by rw [B_size]; omega)]
 rfl
end Go.Proofs.YtmnigckpejcaeaaGreatDoor
namespace Go.Proofs.YtmnigckpejcaeaaGreatDoor
open Go.RowKit
set_option maxRecDepth 100000
def signsL : List UInt8 := [60, 62, 34, 123, 125, 124, 94, 96, 92]
theorem signs_low : ∀ c ∈ signsL, c.toNat < 128 := by decide
theorem signs_at (j : Nat) (h : j < 9) : (signsL[j]'h).toNat < 128 := signs_low _ (List.getElem_mem ..)
theorem ix_none : ∀ (l : List UInt8) (c : UInt8), (∀ b ∈ l, b ≠ c) -> Lib.indexByte l c = -1
 | [], _, _ => rfl
 | b :: l, c, h => by
   have ih := ix_none l c (fun x hx => h x (List.mem_cons_of_mem _ hx))
   rw [Lib.indexByte, ih, beq_eq_false_iff_ne.2 (h b (List.mem_cons_self ..))]
   rfl
theorem encode_cases (x : Nat) (h1 : 128 <= x) (hv : Lib.validRune (x : Int) = true) :
   (∃ a b, Utf8.encode (x : Int) = ⟨#[a, b]⟩ /\ 128 <= b.toNat) \/ (∃ a b c, Utf8.encode (x : Int) = ⟨#[a, b, c]⟩ /\ 128 <= c.toNat) \/ (∃ a b c d, Utf8.encode (x : Int) = ⟨#[a, b, c, d]⟩ /\ 128 <= d.toNat) := by
 obtain ⟨f1, f2, f3⟩ := encode_facts (x : Int) (by rw [validRune_eq]; exact hv) (by omega)
 generalize Utf8.encode (x : Int) = rs at *
 obtain ⟨⟨l⟩⟩ := rs
 match l, f1, f2, f3 with
 | [a, b], _, _, f3 => exact .inl ⟨a, b, rfl, f3 (Nat.lt_succ_self 1)⟩
 | [a, b, c], _, _, f3 => exact .inr (.inl ⟨a, b, c, rfl, f3 (Nat.lt_succ_self 2)⟩)
 | [a, b, c, d], _, _, f3 => exact .inr (.inr ⟨a, b, c, d, rfl, f3 (Nat.lt_succ_self 3)⟩)
 | [], f1, _, _ => exact absurd f1 (by show ¬ 2 <= 0; omega)
 | [_], f1, _, _ => exact absurd f1 (by show ¬ 2 <= 1; omega)
 | _ :: _ :: _ :: _ :: _ :: t, _, f2, _ => exact absurd f2 (by show ¬ (t.length + 1 + 1 + 1 + 1 + 1 <= 4); omega)
theorem quiet_add_same {P : Program} {f : FuncId} {args : Array Value} {w : World} {a n : Nat} {v : Value}
   (h : Calls P f args (w.drewN (a + n)) fun e w' => e = .returned v /\ w' = w.drewN (a + n)) :
   Calls P f args (w.drewN (a + n)) fun e w'' => e = .returned v /\ ∃ m, w'' = w.drewN (a + m) :=
 h.mono fun _ _ ⟨he, hm⟩ => ⟨he, n, hm⟩
theorem indexByte_high (c : UInt8) (hc : 128 <= c.toNat) (t : ByteArray) (ht : ∀ b ∈ t.data.toList, b.toNat < 128) (u : World) :
   Calls Tryz.prog 152 #[.string t, .int .u8 (c.toNat : Int)] u fun e w' => e = .returned (.int .i64 (-1)) /\ w' = u := by
 have h := Tryz.strings_IndexByte t (c.toNat : Int) u
 rw [show ((c.toNat : Int).toNat.toUInt8) = c from by simp, ix_none _ c (fun b hb e => by have := ht b hb; rw [e] at this; omega)] at h
 exact h
set_option maxHeartbeats 3200000 in
theorem indexRune_high (x : Nat) (h1 : 128 <= x) (h2 : x <= 1114111) (w : World) :
   Calls Tryz.prog 240 #[.string { data := #[60, 62, 34, 123, 125, 124, 94, 96, 92] }, .int .i32 (x : Int)] w fun e w' => e = .returned (.int .i64 (-1)) /\ Below w.heap.size w w' := by
 have VAL := Lib.hid (fun u => Tryz.utf8_ValidRune (x : Int) u)
 have q1 : decide ((x : Int) < 128) = false := decide_eq_false (by omega)
 by_cases h3 : x = 65533
 · have q3 : ((x : Int) == 65533) = true := by rw [h3]; rfl
   clear h3
   go_enter Tryz.func240, Tryz.ntmps240
   go_wp2_with fail
   go_loopw [5] (fun _ wr => ∃ j : Nat, j <= 9 /\ wr = w.iter { data := #[60, 62, 34, 123, 125, 124, 94, 96, 92] } j) (fun _ wr => 9 - wr.iterPos w.heap.size)
   case atStart => exact ⟨0, Nat.zero_le _, rfl⟩
   case round =>
     obtain ⟨j, hj, rfl⟩ := hrel
     by_cases hlt : j < 9
     · have ha := signs_at j hlt
       have hnx := fun ty => next_ascii (P := Tryz.prog) w signsL j ty hlt ha
       obtain ⟨c, hc⟩ : ∃ c, (signsL[j]'hlt) = c := ⟨_, rfl⟩
       rw [hc] at hnx ha
       change ∀ ty, (Instr.next (.pointer (some ⟨w.heap.size, 0, none⟩)) true ty).run Tryz.prog (w.iter { data := #[60, 62, 34, 123, 125, 124, 94, 96, 92] } j) = .ok (.tuple #[.bool true, .int .i64 (j : Int), .int .i32 (c.toNat : Int)]) (w.iter { data := #[60, 62, 34, 123, 125, 124, 94, 96, 92] } (j + 1)) at hnx
       have e1 : ((c.toNat : Int) == 65533) = false := beq_eq_false_iff_ne.2 (by omega)
       clear hc ha
       go_wp2_with fail
       go_roundw
       case rel => exact ⟨j + 1, hlt, rfl⟩
       case measure => simp; omega
     · obtain rfl : j = 9 := by omega
       have hnx := fun ty => next_end (P := Tryz.prog) w signsL ty
       change ∀ ty, (Instr.next (.pointer (some ⟨w.heap.size, 0, none⟩)) true ty).run Tryz.prog (w.iter { data := #[60, 62, 34, 123, 125, 124, 94, 96, 92] } 9) = .ok (.tuple #[.bool false]) (w.iter { data := #[60, 62, 34, 123, 125, 124, 94, 96, 92] } 9) at hnx
       go_wp2_with fail
       go_ret
       exact ⟨rfl, (Below.refl _ _).alloc (Nat.le_refl _) _⟩
 have q3 : ((x : Int) == 65533) = false := beq_eq_false_iff_ne.2 (by omega)
 cases hv : Lib.validRune (x : Int) with
 | false =>
   rw [hv] at VAL
   clear hv h3
   go_enter Tryz.func240, Tryz.ntmps240
   go_wp2_with (go_at_call 81; (with_reducible refine (VAL.out _).mono ?_); rintro e w1 ⟨rfl, rfl⟩)
   go_ret
   exact ⟨rfl, Below.refl _ _⟩
 | true =>
   rw [hv] at VAL
   rcases encode_cases x h1 hv with ⟨a, b, he, hb⟩ | ⟨a, b0, b, he, hb⟩ | ⟨a, b0, b1, b, he, hb⟩
   · have IX := Lib.hid (indexByte_high b hb)
     have e1 : ((62 : Int) == (b.toNat : Int)) = false := beq_eq_false_iff_ne.2 (by omega)
     have e2 : ((62 : Int) != (b.toNat : Int)) = true := by rw [bne, e1]; rfl
     have i1 : ∀ u : World, (Instr.index 9 (.string { data := #[60, 62, 34, 123, 125, 124, 94, 96, 92] }) (.int .i64 1)).run Tryz.prog u = .ok (.int .u8 62) u := fun _ => by kernel_rfl
     have i2 : ∀ u : World, (Instr.index 9 (.string { data := #[a, b] }) (.int .i64 1)).run Tryz.prog u = .ok (.int .u8 (b.toNat : Int)) u := fun _ => by kernel_rfl
     clear hv h3 hb
     go_enter Tryz.func240, Tryz.ntmps240
     go_wp2_with (go_at_call 81; (with_reducible refine (VAL.out _).mono ?_); rintro e w1 ⟨rfl, rfl⟩)
     go_step3
     go_wp2_with fail
     go_loopw [9, 10] (fun i f wr => i = .int .i64 1 /\ f = .int .i64 0 /\ wr = w1) (fun _ _ _ => 0)
     case atStart => exact ⟨rfl, rfl, rfl⟩
     case round =>
       obtain ⟨rfl, rfl, rfl⟩ := hrel
       go_wp2_with fail
       go_step3
       go_wp2_with fail
       go_quiet (fail)
       go_wp2_with fail
       go_quiet ((go_at_call 152; exact quiet_add_same (IX.out _ (fun b hb => signs_low b (mem_extract hb)) _)))
       go_wp2_with fail
       rw [Exit.noGoto_ret]
       dsimp +zetaDelta only [Exit.inBlock, Exit.then, Exit.noGoto]
       go_ret
       exact ⟨rfl, below_drewN _ _⟩
   · have IX := Lib.hid (indexByte_high b hb)
     have e1 : ((34 : Int) == (b.toNat : Int)) = false := beq_eq_false_iff_ne.2 (by omega)
     have e2 : ((34 : Int) != (b.toNat : Int)) = true := by rw [bne, e1]; rfl
     have i1 : ∀ u : World, (Instr.index 9 (.string { data := #[60, 62, 34, 123, 125, 124, 94, 96, 92] }) (.int .i64 2)).run Tryz.prog u = .ok (.int .u8 34) u := fun _ => by kernel_rfl
     have i2 : ∀ u : World, (Instr.index 9 (.string { data := #[a, b0, b] }) (.int .i64 2)).run Tryz.prog u = .ok (.int .u8 (b.toNat : Int)) u := fun _ => by kernel_rfl
     clear hv h3 hb
     go_enter Tryz.func240, Tryz.ntmps240
     go_wp2_with (go_at_call 81; (with_reducible refine (VAL.out _).mono ?_); rintro e w1 ⟨rfl, rfl⟩)
     go_step3
     go_wp2_with fail
     go_loopw [9, 10] (fun i f wr => i = .int .i64 2 /\ f = .int .i64 0 /\ wr = w1) (fun _ _ _ => 0)
     case atStart => exact ⟨rfl, rfl, rfl⟩
     case round =>
       obtain ⟨rfl, rfl, rfl⟩ := hrel
       go_wp2_with fail
       go_step3
       go_wp2_with fail
       go_quiet (fail)
       go_wp2_with fail
       go_quiet ((go_at_call 152; exact quiet_add_same (IX.out _ (fun b hb => signs_low b (mem_extract hb)) _)))
       go_wp2_with fail
       rw [Exit.noGoto_ret]
       dsimp +zetaDelta only [Exit.inBlock, Exit.then, Exit.noGoto]
       go_ret
       exact ⟨rfl, below_drewN _ _⟩
   · have IX := Lib.hid (indexByte_high b hb)
     have e1 : ((123 : Int) == (b.toNat : Int)) = false := beq_eq_false_iff_ne.2 (by omega)
     have e2 : ((123 : Int) != (b.toNat : Int)) = true := by rw [bne, e1]; rfl
     have i1 : ∀ u : World, (Instr.index 9 (.string { data := #[60, 62, 34, 123, 125, 124, 94, 96, 92] }) (.int .i64 3)).run Tryz.prog u = .ok (.int .u8 123) u := fun _ => by kernel_rfl
     have i2 : ∀ u : World, (Instr.index 9 (.string { data := #[a, b0, b1, b] }) (.int .i64 3)).run Tryz.prog u = .ok (.int .u8 (b.toNat : Int)) u := fun _ => by kernel_rfl
     clear hv h3 hb
     go_enter Tryz.func240, Tryz.ntmps240
     go_wp2_with (go_at_call 81; (with_reducible refine (VAL.out _).mono ?_); rintro e w1 ⟨rfl, rfl⟩)
     go_step3
     go_wp2_with fail
     go_loopw [9, 10] (fun i f wr => i = .int .i64 3 /\ f = .int .i64 0 /\ wr = w1) (fun _ _ _ => 0)
     case atStart => exact ⟨rfl, rfl, rfl⟩
     case round =>
       obtain ⟨rfl, rfl, rfl⟩ := hrel
       go_wp2_with fail
       go_step3
       go_wp2_with fail
       go_quiet (fail)
       go_wp2_with fail
       go_quiet ((go_at_call 152; exact quiet_add_same (IX.out _ (fun b hb => signs_low b (mem_extract hb)) _)))
       go_wp2_with fail
       rw [Exit.noGoto_ret]
       dsimp +zetaDelta only [Exit.inBlock, Exit.then, Exit.noGoto]
       go_ret
       exact ⟨rfl, below_drewN _ _⟩
theorem containsRune_l (x : Nat) (h2 : x <= 1114111) (w : World) :
   Calls Tryz.prog 211 #[.string { data := #[60, 62, 34, 123, 125, 124, 94, 96, 92] }, .int .i32 (x : Int)] w fun e w' => e = .returned (.bool ([60, 62, 34, 123, 125, 124, 94, 92, 96].contains x)) /\ Below w.heap.size w w' := by
 by_cases h : x < 128
 · refine (Tryz.strings_ContainsRune_ascii { data := #[60, 62, 34, 123, 125, 124, 94, 96, 92] } (x : Int) w (by omega) (by omega)).mono fun e w' ⟨he, hw⟩ => ⟨?_, hw ▸ Below.refl _ _⟩
   rw [he]
   have : ∀ y : Fin 128, decide (0 <= Lib.indexByte signsL ((y.val : Int).toNat.toUInt8)) = [60, 62, 34, 123, 125, 124, 94, 92, 96].contains y.val := by decide +kernel
   exact ret_bool (this ⟨x, h⟩)
 · have hx : [60, 62, 34, 123, 125, 124, 94, 92, 96].contains x = false := by
     rw [Bool.eq_false_iff]
     intro hc
     simp at hc
     omega
   have IR := Lib.hid (indexRune_high x (by omega) h2)
   rw [hx]
   clear hx
   go_enter Tryz.func211, Tryz.ntmps211
   go_wp2_with (go_at_call 240; (with_reducible refine (IR.out _).mono ?_); rintro e w1 ⟨rfl, hb1⟩)
   go_ret
   exact ⟨rfl, hb1⟩
theorem barred_l (x : Nat) (h2 : x <= 1114111) (w : World) :
   Calls Tryz.prog 172 #[.int .i32 (x : Int)] w fun e w' => e = .returned (.bool (barR x)) /\ Below w.heap.size w w' := by
 have CR := Lib.hid (containsRune_l x h2)
 by_cases h : x <= 32
 · have q1 : decide ((x : Int) <= 32) = true := decide_eq_true (by omega)
   have HE : Hid (barR x = true) := Lib.hid (by unfold barR; rw [decide_eq_true h]; rfl)
   clear h
   go_enter Tryz.func172, Tryz.ntmps172
   go_wp2_with fail
   go_ret
   exact ⟨ret_bool HE.out.symm, Below.refl _ _⟩
 · have q1 : decide ((x : Int) <= 32) = false := decide_eq_false (by omega)
   have HE : Hid (barR x = [60, 62, 34, 123, 125, 124, 94, 92, 96].contains x) := Lib.hid (by unfold barR; rw [decide_eq_false h]; rfl)
   obtain ⟨c, hc⟩ : ∃ c, [60, 62, 34, 123, 125, 124, 94, 92, 96].contains x = c := ⟨_, rfl⟩
   rw [hc] at CR HE
   clear h hc
   go_enter Tryz.func172, Tryz.ntmps172
   go_wp2_with (go_at_call 211; (with_reducible refine (CR.out _).mono ?_); rintro e w1 ⟨rfl, hb1⟩)
   go_ret
   exact ⟨ret_bool HE.out.symm, hb1⟩
theorem indexBarred_l (l : List UInt8) (w : World) : Calls Tryz.prog 171 #[.string (B l), .func (.func 172) #[] #[]] w fun e w' => (∃ n, e = .returned (.int .i64 n) /\ decide (0 <= n) = l.any barC) /\ Below w.heap.size w w' :=
 (Tryz.strings_IndexFunc_grows 172 #[] (enters_of Tryz.func172 (by kernel_rfl) rfl) barR (B l) w (fun W x hx _ => barred_l x hx W)).mono fun _ _ ⟨he, hb⟩ => ⟨⟨_, he, idx_any l⟩, hb⟩
end Go.Proofs.YtmnigckpejcaeaaGreatDoor
