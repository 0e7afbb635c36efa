/-
  strings.IndexRune and strings.IndexAny at a line's two ends: contracts. By an AI agent.
-/
import Derived.Test.YtdhmpakhdhdebaaGreatDoorZLexW4
import Derived.Test.YtdhmpakhdhdebaaGreatDoorZBar0
import Derived.Lib.TrimU
import Derived.Lib.IndexAny
namespace Go.Proofs.YtdhmpakhdhdebaaGreatDoor
open Go.RowKit
set_option maxRecDepth 100000
def endsL : List UInt8 := [13, 10]
theorem ends_low : ∀ c ∈ endsL, c.toNat < 128 := by decide
theorem ends_at (j : Nat) (h : j < 2) : (endsL[j]'h).toNat < 128 := (by decide : ∀ c ∈ endsL, c.toNat < 128) _ (List.getElem_mem ..)
set_option maxHeartbeats 3200000 in
theorem endRune_high (x : Nat) (h1 : 128 <= x) (h2 : x <= 1114111) (w : World) :
   Calls Tryz.prog 93 #[.string { data := #[13, 10] }, .int .i32 (x : Int)] w fun e w' => e = .returned (.int .i64 (-1)) /\ Below w.heap.size w w' := by
 have VAL := Lib.hid (fun u => Tryz.utf8_ValidRune (x : Int) u)
 have q0 : decide ((0 : Int) <= (x : Int)) = true := decide_eq_true (by omega)
 have q1 : decide ((x : Int) < 128) = false := decide_eq_false (by omega)
 by_cases h3 : x = 65533
 · have q3 : ((x : Int) == 65533) = true := by rw [h3]; rfl
   clear h3
   go_enter Tryz.func93, Tryz.ntmps93
   go_wp2_with fail
   go_loopw [5] (fun _ wr => ∃ j : Nat, j <= 2 /\ wr = w.iter { data := #[13, 10] } j) (fun _ wr => 2 - wr.iterPos w.heap.size)
   case atStart => exact ⟨0, Nat.zero_le _, rfl⟩
   case round =>
     obtain ⟨j, hj, rfl⟩ := hrel
     by_cases hlt : j < 2
     · have ha := ends_at j hlt
       have hnx := fun ty => next_ascii (P := Tryz.prog) w endsL j ty hlt ha
       obtain ⟨c, hc⟩ : ∃ c, (endsL[j]'hlt) = c := ⟨_, rfl⟩
       rw [hc] at hnx ha
       change ∀ ty, (Instr.next (.pointer (some ⟨w.heap.size, 0, none⟩)) true ty).run Tryz.prog (w.iter { data := #[13, 10] } j) = .ok (.tuple #[.bool true, .int .i64 (j : Int), .int .i32 (c.toNat : Int)]) (w.iter { data := #[13, 10] } (j + 1)) at hnx
       have e1 : ((c.toNat : Int) == 65533) = false := beq_eq_false_iff_ne.2 (by omega)
       clear hc ha
       go_wp2_with fail
       go_roundw
       case rel => exact ⟨j + 1, hlt, rfl⟩
       case measure => simp; omega
     · obtain rfl : j = 2 := by omega
       have hnx := fun ty => next_end (P := Tryz.prog) w endsL ty
       change ∀ ty, (Instr.next (.pointer (some ⟨w.heap.size, 0, none⟩)) true ty).run Tryz.prog (w.iter { data := #[13, 10] } 2) = .ok (.tuple #[.bool false]) (w.iter { data := #[13, 10] } 2) at hnx
       go_wp2_with fail
       go_ret
       exact ⟨rfl, (Below.refl _ _).alloc (Nat.le_refl _) _⟩
 have q3 : ((x : Int) == 65533) = false := beq_eq_false_iff_ne.2 (by omega)
 cases hv : Lib.validRune (x : Int) with
 | false =>
   rw [hv] at VAL
   clear hv h3
   go_enter Tryz.func93, Tryz.ntmps93
   go_wp2_with (go_at_call 139; (with_reducible refine (VAL.out _).mono ?_); rintro e w1 ⟨rfl, rfl⟩)
   go_ret
   exact ⟨rfl, Below.refl _ _⟩
 | true =>
   rw [hv] at VAL
   rcases encode_cases x h1 hv with ⟨a, b, he, hb⟩ | ⟨a, b0, b, he, hb⟩ | ⟨a, b0, b1, b, he, hb⟩
   · have IX2 := Lib.hid (fun (u : World) => indexByte_high b hb ByteArray.empty (fun x hx => (List.not_mem_nil (show x ∈ ([] : List UInt8) from hx)).elim) u)
     have e1 : ((10 : Int) == (b.toNat : Int)) = false := beq_eq_false_iff_ne.2 (by omega)
     have e2 : ((10 : Int) != (b.toNat : Int)) = true := by rw [bne, e1]; rfl
     have i1 : ∀ u : World, (Instr.index 9 (.string { data := #[13, 10] }) (.int .i64 1)).run Tryz.prog u = .ok (.int .u8 10) u := fun _ => by kernel_rfl
     have i2 : ∀ u : World, (Instr.index 9 (.string { data := #[a, b] }) (.int .i64 1)).run Tryz.prog u = .ok (.int .u8 (b.toNat : Int)) u := fun _ => by kernel_rfl
     clear hv h3 hb
     go_enter Tryz.func93, Tryz.ntmps93
     go_wp2_with (go_at_call 139; (with_reducible refine (VAL.out _).mono ?_); rintro e w1 ⟨rfl, rfl⟩)
     go_step3
     go_wp2_with fail
     go_loopw [9, 10] (fun i f wr => i = .int .i64 1 /\ f = .int .i64 0 /\ wr = w1) (fun _ _ _ => 0)
     case atStart => exact ⟨rfl, rfl, rfl⟩
     case round =>
       obtain ⟨rfl, rfl, rfl⟩ := hrel
       go_wp2_with fail
       go_step3
       go_wp2_with fail
       go_quiet (fail)
       go_wp2_with fail
       go_quiet ((go_at_call 72; exact quiet_add_same (IX2.out _)))
       go_wp2_with fail
       rw [Exit.noGoto_ret]
       dsimp +zetaDelta only [Exit.inBlock, Exit.then, Exit.noGoto]
       go_ret
       exact ⟨rfl, below_drewN _ _⟩
   · clear hv h3 hb
     go_enter Tryz.func93, Tryz.ntmps93
     go_wp2_with (go_at_call 139; (with_reducible refine (VAL.out _).mono ?_); rintro e w1 ⟨rfl, rfl⟩)
     go_step3
     go_wp2_with fail
     go_loopw [9, 10] (fun i f wr => i = .int .i64 2 /\ f = .int .i64 0 /\ wr = w1) (fun _ _ _ => 0)
     case atStart => exact ⟨rfl, rfl, rfl⟩
     case round =>
       obtain ⟨rfl, rfl, rfl⟩ := hrel
       go_wp2_with fail
       rw [Exit.noGoto_ret]
       dsimp +zetaDelta only [Exit.inBlock, Exit.then, Exit.noGoto]
       go_ret
       exact ⟨rfl, Below.refl _ _⟩
   · clear hv h3 hb
     go_enter Tryz.func93, Tryz.ntmps93
     go_wp2_with (go_at_call 139; (with_reducible refine (VAL.out _).mono ?_); rintro e w1 ⟨rfl, rfl⟩)
     go_step3
     go_wp2_with fail
     go_loopw [9, 10] (fun i f wr => i = .int .i64 3 /\ f = .int .i64 0 /\ wr = w1) (fun _ _ _ => 0)
     case atStart => exact ⟨rfl, rfl, rfl⟩
     case round =>
       obtain ⟨rfl, rfl, rfl⟩ := hrel
       go_wp2_with fail
       rw [Exit.noGoto_ret]
       dsimp +zetaDelta only [Exit.inBlock, Exit.then, Exit.noGoto]
       go_ret
       exact ⟨rfl, Below.refl _ _⟩
end Go.Proofs.YtdhmpakhdhdebaaGreatDoor
namespace Go.Proofs.YtdhmpakhdhdebaaGreatDoor
open Go.RowKit
set_option maxRecDepth 100000
def endF (l : List UInt8) : Int := if eolF l 0 < l.length then (eolF l 0 : Int) else -1
theorem ends_has (c : UInt8) : ([13, 10] : List UInt8).contains c = eolC c := by
 unfold eolC
 rw [Bool.eq_iff_iff]
 simp [or_comm]
theorem idx_ends (l : List UInt8) : ∀ (k i : Nat), l.length - i <= k -> i <= l.length -> Lib.indexAny (l.drop i) [13, 10] = if eolF l i < l.length then ((eolF l i - i : Nat) : Int) else -1
 | k, i, hk, hi => by
   by_cases h : l.length <= i
   · rw [List.drop_eq_nil_of_le h, eolF_end h, if_neg (by omega)]; rfl
   match k, hk with
   | 0, hk => omega
   | k + 1, hk =>
     have ih := idx_ends l k (i + 1) (by omega) (by omega)
     have hg : l.getD i 0 = l[i]'(by omega) := by simp [List.getD, show i < l.length by omega]
     rw [List.drop_eq_getElem_cons (by omega), Lib.indexAny, ends_has]
     have hb := eolF_ge l (i + 1)
     cases hc : eolC (l[i]'(by omega)) with
     | true => rw [eolF_hit (by omega) (by rw [hg]; exact hc), if_pos rfl, if_pos (by omega), Nat.sub_self]; rfl
     | false =>
       rw [eolF_go (by omega) (by rw [hg]; exact hc), if_neg (by simp), ih]
       by_cases he : eolF l (i + 1) < l.length
       · rw [if_pos he, if_pos he, if_neg (by simp)]; omega
       · rw [if_neg he, if_neg he]; rfl
theorem endF_any (l : List UInt8) : Lib.indexAny l [13, 10] = endF l := by
 have h := idx_ends l l.length 0 (by omega) (Nat.zero_le _)
 rw [List.drop_zero, Nat.sub_zero] at h
 exact h
theorem useSet_l (n : Int) (w : World) : Calls Tryz.prog 94 #[.int .i64 n] w fun e w' => e = .returned (.bool (decide (8 < n))) /\ w' = w := by
 go_enter Tryz.func94, Tryz.ntmps94
 go_wp2
 go_ret
 exact ⟨rfl, rfl⟩
theorem ends_byte (c : UInt8) (h : c.toNat < 128) : Lib.indexByte [13, 10] c = if c = 13 then 0 else if c = 10 then 1 else -1 := by
 by_cases h1 : c = 13
 · subst h1; rfl
 rw [if_neg h1]
 by_cases h2 : c = 10
 · subst h2; rfl
 rw [if_neg h2]
 exact ix_none _ c (fun b hb e => by
   subst e
   rcases List.mem_cons.1 hb with h | hb
   · exact h1 h
   · exact h2 (List.mem_singleton.1 hb))
theorem eol_skip (l : List UInt8) (i n : Nat) (hn : i + n <= l.length) (h : ∀ k (hk : k < l.length), i <= k -> k < i + n -> 128 <= l[k].toNat) : eolF l i = eolF l (i + n) := by
 induction n with
 | zero => rfl
 | succ n ih =>
   rw [ih (by omega) (fun k hk h1 h2 => h k hk h1 (by omega))]
   have hc := h (i + n) (by omega) (by omega) (by omega)
   rw [eolF_go (by omega) (by
     rw [show l.getD (i + n) 0 = l[i + n]'(by omega) by simp [List.getD, show i + n < l.length by omega]]
     unfold eolC
     rw [Bool.or_eq_false_iff]
     refine ⟨beq_eq_false_iff_ne.2 (fun e => ?_), beq_eq_false_iff_ne.2 (fun e => ?_)⟩ <;> (rw [e] at hc; exact absurd hc (by decide)))]
   rfl
set_option maxHeartbeats 1600000 in
theorem endAny_short (l : List UInt8) (w : World) (h8 : l.length <= 8) : Calls Tryz.prog 65 #[.string (B l), .string { data := #[13, 10] }] w fun e w' => e = .returned (.int .i64 (endF l)) /\ Below w.heap.size w w' := by
 have US := Lib.hid (fun (u : World) => useSet_l (l.length : Int) u)
 rw [decide_eq_false (show ¬ (8 : Int) < (l.length : Int) by omega)] at US
 have IA : Hid (∀ (c : UInt8) (u : World), c.toNat < 128 -> Calls Tryz.prog 93 #[.string { data := #[13, 10] }, .int .i32 (c.toNat : Int)] u fun e w' => e = .returned (.int .i64 (if c = 13 then 0 else if c = 10 then 1 else -1)) /\ w' = u) := Lib.hid (fun c u h => by
   have := Tryz.strings_IndexRune_ascii { data := #[13, 10] } (c.toNat : Int) u (by omega) (by omega)
   rw [show ((c.toNat : Int).toNat.toUInt8) = c from by simp, show ({ data := #[13, 10] } : ByteArray).data.toList = [13, 10] from rfl, ends_byte c h] at this
   exact this)
 have IH := Lib.hid endRune_high
 have HI : Hid ((w.iter (B l) 0).heap[w.heap.size]? = some (.stringIter (B l) 0)) := Lib.hid (heap_alloc_new w _)
 have HB0 : Hid (Below w.heap.size w (w.iter (B l) 0)) := Lib.hid ((Below.refl _ _).alloc (Nat.le_refl _) _)
 go_enter Tryz.func65, Tryz.ntmps65
 go_wp2_with (go_at_call 94; (with_reducible refine (US.out _).mono ?_); rintro e w1 ⟨rfl, hw1⟩; obtain rfl := hw1.symm)
 go_loopw [9] (fun _ wr => ∃ j : Nat, j <= l.length /\ Hid (eolF l 0 = eolF l j) /\ Hid (wr.heap[w.heap.size]? = some (.stringIter (B l) j)) /\ Hid (Below w.heap.size w wr)) (fun _ wr => l.length - wr.iterPos w.heap.size)
 case atStart => exact ⟨0, Nat.zero_le _, Lib.hid rfl, HI, HB0⟩
 case round =>
   obtain ⟨j, hj, HE, HJ, HB⟩ := hrel
   clear HI HB0
   by_cases hlt : j < l.length
   · have hnx := fun ty => Lib.run_next_any_at (P := Tryz.prog) wr w.heap.size (B l) j ty HJ.out (by rw [B_size]; exact hlt)
     have hg : l.getD j 0 = l[j] := by simp [List.getD, hlt]
     have HK : ∀ n, Hid ((wr.iterAt w.heap.size (B l) n).heap[w.heap.size]? = some (.stringIter (B l) n)) := fun n => Lib.hid (Lib.iterAt_heap _ _ _ _ _ HJ.out)
     have HBN : ∀ n, Hid (Below w.heap.size w (wr.iterAt w.heap.size (B l) n)) := fun n => Lib.hid (Lib.below_iterAt HB.out (Nat.le_refl _) _ _)
     have hpos : wr.iterPos w.heap.size = j := by simp [World.iterPos, HJ.out]
     rcases dec_step l j hlt with ⟨ha, hd⟩ | ⟨h1, h2, h3, h4⟩
     · rw [hd] at hnx
       simp only at hnx
       have I1 := Lib.hid (fun u => IA.out l[j] u ha)
       cases hc : eolC l[j] with
       | true =>
         have HR : Hid (endF l = (j : Int)) := Lib.hid (by unfold endF; rw [HE.out, eolF_hit hlt (by rw [hg]; exact hc), if_pos hlt])
         have hcc : l[j] = 13 \/ l[j] = 10 := by unfold eolC at hc; simp at hc; exact hc.symm
         have q : ∃ z : Int, decide (0 <= z) = true /\ (if l[j] = 13 then 0 else if l[j] = 10 then 1 else -1) = z := by
           rcases hcc with h | h
           · exact ⟨0, rfl, by rw [if_pos h]⟩
           · exact ⟨1, rfl, by rw [h]; rfl⟩
         obtain ⟨z, qz, hz⟩ := q
         rw [hz] at I1
         have HB2 := HBN (j + 1)
         clear hz hcc hc HE HK HBN ha hg hd
         go_wp2_with (go_at_call 93; (with_reducible refine (I1.out _).mono ?_); rintro e w2 ⟨rfl, hw2⟩; obtain rfl := hw2.symm)
         go_ret
         exact ⟨by rw [HR.out]; rfl, HB2.out⟩
       | false =>
         have HN : Hid (eolF l 0 = eolF l (j + 1)) := Lib.hid (by rw [HE.out, eolF_go hlt (by rw [hg]; exact hc)])
         have hcc : l[j] ≠ 13 /\ l[j] ≠ 10 := by unfold eolC at hc; simp at hc; exact ⟨hc.2, hc.1⟩
         rw [if_neg hcc.1, if_neg hcc.2] at I1
         have HB2 := HBN (j + 1)
         have HK2 := HK (j + 1)
         clear hcc hc HE HK HBN ha hg hd
         go_wp2_with (go_at_call 93; (with_reducible refine (I1.out _).mono ?_); rintro e w2 ⟨rfl, hw2⟩; obtain rfl := hw2.symm)
         go_roundw
         case rel => exact ⟨j + 1, hlt, HN, HK2, HB2⟩
         case measure => have := HK2.out; rw [hpos]; simp [World.iterPos, this]; omega
     · obtain ⟨x, n⟩ : Nat × Nat := ⟨(Utf8.decode (B l) j).1, (Utf8.decode (B l) j).2⟩
       have HX := Lib.hid (Lib.rune_le (B l) j)
       obtain ⟨⟨x, n⟩, hd⟩ : ∃ q, Utf8.decode (B l) j = q := ⟨_, rfl⟩
       rw [hd] at h1 h2 h3 h4 hnx HX
       simp only at h1 h2 h3 h4 hnx HX
       have I1 := Lib.hid (fun u => IH.out x h1 HX.out u)
       have HN : Hid (eolF l 0 = eolF l (j + n)) := Lib.hid (by rw [HE.out]; exact eol_skip l j n h3 h4)
       have HB2 := HBN (j + n)
       have HK2 := HK (j + n)
       have HS : Hid (w.heap.size < (wr.iterAt w.heap.size (B l) (j + n)).heap.size) := Lib.hid (Array.getElem?_eq_some_iff.1 HK2.out).1
       clear h4 HE HK HBN hg hd HX
       go_wp2_with (go_at_call 93; (with_reducible refine (I1.out _).mono ?_); rintro e w2 ⟨rfl, hb2⟩; have HB3 := Lib.hid (HB2.out.trans (hb2.mono HB2.out.size)); have HK3 := Lib.hid ((hb2.block _ HS.out).trans HK2.out); clear hb2)
       go_roundw
       case rel => exact ⟨j + n, h3, HN, HK3, HB3⟩
       case measure => have := HK3.out; rw [hpos]; simp [World.iterPos, this]; omega
   · have hnx := fun ty => Lib.run_next_end_at (P := Tryz.prog) wr w.heap.size (B l) j ty HJ.out (by rw [B_size]; exact hlt)
     have HR : Hid (endF l = -1) := Lib.hid (by unfold endF; rw [HE.out, eolF_end (by omega), if_neg hlt])
     go_wp2_with fail
     go_ret
     exact ⟨by rw [HR.out]; rfl, HB.out⟩
theorem endAny_l (l : List UInt8) (w : World) (hl : l.length <= 16777216) : Calls Tryz.prog 65 #[.string (B l), .string { data := #[13, 10] }] w fun e w' => e = .returned (.int .i64 (endF l)) /\ Below w.heap.size w w' := by
 by_cases h8 : l.length <= 8
 · exact endAny_short l w h8
 · refine (Tryz.strings_IndexAny_long (fun w => by kernel_rfl) (B l) { data := #[13, 10] } w (by decide) (by rw [B_size]; omega) (by rw [B_size]; omega) (by decide) (fun j b hb => ?_)).mono ?_
   · exact ends_low b (List.mem_of_getElem? hb)
   · rintro e w' ⟨he, rfl⟩
     refine ⟨?_, ((Below.refl _ _).alloc (Nat.le_refl _) _).alloc (by simp) _⟩
     rw [he, show ({ data := #[13, 10] } : ByteArray).data.toList = [13, 10] from rfl, show (B l).data.toList = l from B_toList l, endF_any]
end Go.Proofs.YtdhmpakhdhdebaaGreatDoor
