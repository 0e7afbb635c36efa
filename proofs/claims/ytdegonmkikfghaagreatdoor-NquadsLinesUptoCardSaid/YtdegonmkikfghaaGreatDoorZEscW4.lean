/-
  utf.Escape of a text that is well formed: a contract. By an AI agent.
-/
import Derived.Test.YtdegonmkikfghaaGreatDoorZEscW2
import Derived.Test.YtdegonmkikfghaaGreatDoorZBuilder
import Derived.Test.YtdegonmkikfghaaGreatDoorZGSpell
import Derived.WalkSmall
namespace Go.Proofs.YtdegonmkikfghaaGreatDoor
open Go.RowKit
set_option maxRecDepth 100000
theorem BuildsB.heapsame {u u' : World} {B_ b : Nat} {l : List UInt8} (h : BuildsB u B_ b l) (hk : ∀ k, k < u.heap.size -> u'.heap[k]? = u.heap[k]?) : BuildsB u' B_ b l := by
 have key : ∀ p, Lib.BuilderAt 108 5 B_ b p (l.map U8) u -> Lib.BuilderAt 108 5 B_ b p (l.map U8) u' := by
   rintro p ⟨hB, v, hb, hown, hne⟩
   refine ⟨hB, v, (hk b (Array.getElem?_eq_some_iff.1 hb).1).trans hb, ⟨hown.1, ?_⟩, hne⟩
   rcases hown.2 with h2 | ⟨g, cap, cur, h1, h2, h3, h4⟩
   · exact .inl h2
   · exact .inr ⟨g, cap, cur, h1, h2, (hk g (Array.getElem?_eq_some_iff.1 h3).1).trans h3, h4⟩
 exact h.elim (fun x => .inl (key _ x)) (fun x => .inr (key _ x))
theorem BuildsB.below {u u' : World} {B_ b : Nat} {l : List UInt8} (h : BuildsB u B_ b l) (hb : Below u.heap.size u u') : BuildsB u' B_ b l := h.heapsame fun k hk => hb.block k hk
def RangeB (w wr : World) (l acc : List UInt8) (j : Nat) : Prop := BuildsB wr w.heap.size w.heap.size acc /\ Below w.heap.size w wr /\ wr.heap[w.heap.size + 1]? = some (.stringIter (B l) j)
theorem rangeB_start (w : World) (l : List UInt8) : RangeB w ((w.alloc (.cells #[.pointer none, .slice none 0 0] 108)).iter (B l) 0) l [] 0 := by
 have h1 : BuildsB (w.alloc (.cells #[.pointer none, .slice none 0 0] 108)) w.heap.size w.heap.size [] := Lib.fresh_isBuilder _ _ _
 refine ⟨h1.heapsame fun k hk => Lib.alloc_old _ _ _ hk, ((Below.refl _ _).alloc (Nat.le_refl _) _).alloc (by simp) _, ?_⟩
 have := heap_alloc_new (w.alloc (.cells #[.pointer none, .slice none 0 0] 108)) (.stringIter (B l) 0)
 rw [show (w.alloc (.cells #[.pointer none, .slice none 0 0] 108)).heap.size = w.heap.size + 1 by simp] at this
 exact this
theorem RangeB.next {w wr : World} {l acc : List UInt8} {j : Nat} (h : RangeB w wr l acc j) (k : Nat) : RangeB w (wr.iterAt (w.heap.size + 1) (B l) k) l acc k :=
 ⟨h.1.iterAt h.2.2 k, Lib.below_iterAt h.2.1 (by omega) _ _, Lib.iterAt_heap _ _ _ _ _ h.2.2⟩
theorem RangeB.below {w u u' : World} {l acc : List UInt8} {j : Nat} (h : RangeB w u l acc j) (hb : Below u.heap.size u u') : RangeB w u' l acc j :=
 ⟨h.1.below hb, h.2.1.trans (hb.mono h.2.1.size), (hb.block _ (Array.getElem?_eq_some_iff.1 h.2.2).1).trans h.2.2⟩
theorem RangeB.wrote {w u u' : World} {l acc m : List UInt8} {j : Nat} (h : RangeB w u l acc j) (h1 : BuildsB u' w.heap.size w.heap.size (acc ++ m)) (h2 : Below w.heap.size u u') (h3 : Lib.OthersKept 5 (some w.heap.size) u u') : RangeB w u' l (acc ++ m) j :=
 ⟨h1, h.2.1.trans h2, h3.iter h.2.2 (by omega)⟩
set_option maxHeartbeats 1600000 in
theorem escape_ok (way : Int) (l : List UInt8) (w : World) (hl : l.length <= 16777216) (hu : utfF l 0 = -1) :
   Calls Tryz.prog 53 #[.string (B l), .int .i64 way] w fun e w' => e = .returned (.tuple #[.string (B (escF way l 0)), .nilIface]) /\ Below w.heap.size w w' := by
 have CH : Hid (∀ u, Calls Tryz.prog 79 #[.string (B l)] u fun e w' => e = .returned (.int .i64 (-1)) /\ w' = u) := Lib.hid (fun u => hu ▸ utfCheck_l l u (by omega))
 have WR := Lib.hid (fun (v : Int) (h0 : 0 <= v) (h1 : v <= 1114111) (u : World) => written_l way v u h0 h1)
 have WS := Lib.hid writeStringK_l
 have ST := Lib.hid builderString_l
 have HU := Lib.hid hu
 clear hu
 go_enter Tryz.func53, Tryz.ntmps53
 go_wp2_with (go_at_call 79; (with_reducible refine (CH.out _).mono ?_); rintro e w1 ⟨rfl, hw1⟩; obtain rfl := hw1.symm)
 go_loopw [9] (fun _ wr => ∃ (j : Nat) (acc : List UInt8), j <= l.length /\ acc.length <= 6 * j /\ Hid (escF way l 0 = acc ++ escF way l j) /\ Hid (utfF l j = -1) /\ Hid (RangeB w wr l acc j)) (fun _ wr => l.length - wr.iterPos (w.heap.size + 1))
 case atStart => exact ⟨0, [], Nat.zero_le _, Nat.zero_le _, Lib.hid rfl, HU, Lib.hid (rangeB_start w l)⟩
 case round =>
   obtain ⟨j, acc, hj, hacc, HS, HV, HR⟩ := hrel
   by_cases hlt : j < l.length
   · obtain ⟨v, n, hq⟩ : ∃ v n, nextAt l (j : Int) = (v, n) := ⟨_, _, rfl⟩
     have hn : n ≠ 0 := by
       rintro rfl
       have := HV.out
       rw [utfF_bad hlt hq] at this
       omega
     have hbd := nextAt_bound hq hn
     have hjn : j + n <= l.length := by omega
     have HE : Hid (escF way l 0 = (acc ++ wrF way v) ++ escF way l (j + n)) := Lib.hid (by rw [HS.out, escF_go hlt hq hn, List.append_assoc])
     have HW : Hid (utfF l (j + n) = -1) := Lib.hid (by have := HV.out; rw [utfF_go hlt hq hn] at this; exact this)
     have hnx := fun ty => Lib.run_next_any_at (P := Tryz.prog) wr (w.heap.size + 1) (B l) j ty HR.out.2.2 (by rw [B_size]; exact hlt)
     rw [decode_next hq hn] at hnx
     simp only [Int.toNat_of_nonneg hbd.2.2.1] at hnx
     have HR2 := Lib.hid (HR.out.next (j + n))
     have W2 := Lib.hid (fun u => WR.out v hbd.2.2.1 hbd.2.2.2 u)
     have HQ := Lib.hid (HR.out.2.2)
     have hlw := wrF_len way v
     have hlx : acc.length + (wrF way v).length <= 140737488355328 := by omega
     have h0n : 0 < n := by omega
     have HP : Hid (acc.length + (wrF way v).length <= 6 * (j + n)) := Lib.hid (by omega)
     clear HS HV HR hq hn hbd WR hlw
     go_wp2_with (first
       | (go_at_call 81; (with_reducible refine (W2.out _).mono ?_); rintro e w2 ⟨rfl, hb2⟩; have HR3 := Lib.hid (HR2.out.below hb2); clear hb2)
       | (go_at_call 55; (refine (WS.out _ _ acc _ _ HR3.out.1 ?c1 HR3.out.2.1.size).mono ?_); rotate_left; rintro e w4 ⟨rfl, h1, h2, h3⟩; have HR4 := Lib.hid (HR3.out.wrote h1 h2 h3); clear h1 h2 h3))
     case c1 => exact hlx
     go_roundw
     case rel => exact ⟨j + n, acc ++ wrF way v, hjn, by have := HP.out; simp; omega, HE, HW, HR4⟩
     case measure =>
       rw [iterPos_of HR4.out.2.2, iterPos_of HQ.out]
       omega
   · have hnx := fun ty => Lib.run_next_end_at (P := Tryz.prog) wr (w.heap.size + 1) (B l) j ty HR.out.2.2 (by rw [B_size]; exact hlt)
     have HE : Hid (escF way l 0 = acc) := Lib.hid (by rw [HS.out, escF_end (by omega), List.append_nil])
     clear HS HV
     go_wp2_with (go_at_call 56; (refine (ST.out _ _ acc _ HR.out.1 HR.out.2.1.size).mono ?_); rintro e w5 ⟨rfl, hb5⟩; have HB5 := Lib.hid (HR.out.2.1.trans hb5); clear hb5)
     go_ret2
     exact ⟨by rw [HE.out]; rfl, HB5.out⟩
end Go.Proofs.YtdegonmkikfghaaGreatDoor
