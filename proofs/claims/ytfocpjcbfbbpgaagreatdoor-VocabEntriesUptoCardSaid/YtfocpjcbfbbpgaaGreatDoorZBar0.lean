/-
  A text with a rune that is barred is a text with a byte that is barred. Plain. By an AI agent.
-/
import Derived.Test.YtfocpjcbfbbpgaaGreatDoorZTerm0
import Derived.Lib.DecodeN
import Derived.Lib.MapLaws
import Derived.Laws.RangeString
import Derived.Shelf.GgClosure.StringsIndexFunc
namespace Go.Proofs.YtfocpjcbfbbpgaaGreatDoor
open Go.RowKit
set_option maxRecDepth 100000
theorem get_B (l : List UInt8) (i : Nat) (h : i < l.length) : (B l).get! i = l[i] := by
 show (B l).data[i]! = _
 rw [getElem!_pos _ _ (by simpa [B] using h)]
 simp [B]
theorem dec_step (l : List UInt8) (pos : Nat) (h : pos < l.length) :
   (l[pos].toNat < 128 /\ Utf8.decode (B l) pos = (l[pos].toNat, 1)) \/
   (128 <= (Utf8.decode (B l) pos).1 /\ 1 <= (Utf8.decode (B l) pos).2 /\ pos + (Utf8.decode (B l) pos).2 <= l.length /\ ∀ k (hk : k < l.length), pos <= k -> k < pos + (Utf8.decode (B l) pos).2 -> 128 <= l[k].toNat) := by
 have hs : (B l).size = l.length := B_size l
 by_cases ha : l[pos].toNat < 128
 · refine .inl ⟨ha, ?_⟩
   have := decode_ascii (B l) pos (by rw [hs]; exact h) (by rw [B_get]; exact ha)
   rw [this, B_get]
 refine .inr ?_
 rw [Lib.decode_at, hs, get_B l pos h]
 have hg : ∀ j, pos + j < l.length -> ((B l).get! (pos + j)).toNat = (l.getD (pos + j) 0).toNat := fun j hj => by
   rw [get_B l _ hj, List.getD_eq_getElem?_getD, List.getElem?_eq_getElem hj]; rfl
 rcases Lib.decodeN_shape (l.length - pos) l[pos].toNat ((B l).get! (pos + 1)).toNat ((B l).get! (pos + 2)).toNat ((B l).get! (pos + 3)).toNat with ⟨c, e⟩ | ⟨c1, c2, c3, cv, e⟩ | ⟨c1, c2, c3, c4, cv, cs, e⟩ | ⟨c1, c2, c3, c4, c5, cv, cw, e⟩ | e
 · exact absurd c ha
 · rw [e]
   rw [get_B l _ (by omega)] at c3
   refine ⟨by simp only; omega, by simp, by simp only; omega, fun k hk h1 h2 => ?_⟩
   simp only at h2
   have : k = pos \/ k = pos + 1 := by omega
   rcases this with rfl | rfl <;> omega
 · rw [e]
   rw [get_B l _ (by omega)] at c3
   rw [get_B l _ (by omega)] at c4
   refine ⟨by simp only; omega, by simp, by simp only; omega, fun k hk h1 h2 => ?_⟩
   simp only at h2
   have : k = pos \/ k = pos + 1 \/ k = pos + 2 := by omega
   rcases this with rfl | rfl | rfl <;> omega
 · rw [e]
   rw [get_B l _ (by omega)] at c3
   rw [get_B l _ (by omega)] at c4
   rw [get_B l _ (by omega)] at c5
   refine ⟨by simp only; omega, by simp, by simp only; omega, fun k hk h1 h2 => ?_⟩
   simp only at h2
   have : k = pos \/ k = pos + 1 \/ k = pos + 2 \/ k = pos + 3 := by omega
   rcases this with rfl | rfl | rfl | rfl <;> omega
 · rw [e]
   refine ⟨by simp, by simp, by simp only; omega, fun k hk h1 h2 => ?_⟩
   simp only at h2
   have : k = pos := by omega
   subst this
   omega
def barR (x : Nat) : Bool := decide (x <= 32) || [60, 62, 34, 123, 125, 124, 94, 92, 96].contains x
theorem barR_byte (c : UInt8) : barR c.toNat = barC c := by
 have h : ∀ n : Fin 256, barR n.val = barC (UInt8.ofNat n.val) := by decide +kernel
 have := h ⟨c.toNat, c.toNat_lt⟩
 simpa using this
theorem barR_high {x : Nat} (h : 128 <= x) : barR x = false := by
 unfold barR
 rw [decide_eq_false (by omega), Bool.false_or, Bool.eq_false_iff]
 intro hc
 simp at hc
 omega
theorem barC_high {c : UInt8} (h : 128 <= c.toNat) : barC c = false := by rw [<- barR_byte]; exact barR_high h
theorem any_skip (f : UInt8 -> Bool) (l : List UInt8) : ∀ (w pos : Nat), pos + w <= l.length -> (∀ k (hk : k < l.length), pos <= k -> k < pos + w -> f l[k] = false) -> (l.drop pos).any f = (l.drop (pos + w)).any f
 | 0, pos, _, _ => rfl
 | w + 1, pos, h, hf => by
   rw [List.drop_eq_getElem_cons (by omega), List.any_cons, hf pos (by omega) (Nat.le_refl _) (by omega), Bool.false_or, any_skip f l w (pos + 1) (by omega) (fun k hk h1 h2 => hf k hk (by omega) (by omega)), show pos + 1 + w = pos + (w + 1) by omega]
theorem idx_bar (l : List UInt8) : ∀ (f pos : Nat), l.length <= pos + f -> decide (0 <= Lib.idxFuncFrom barR true (B l) f pos) = (l.drop pos).any barC
 | 0, pos, h => by
   rw [Lib.idxFuncFrom, List.drop_of_length_le (by omega)]; rfl
 | f + 1, pos, h => by
   have hs : (B l).size = l.length := B_size l
   rw [Lib.idxFuncFrom, hs]
   by_cases hp : pos < l.length
   · rw [if_pos hp]
     rcases dec_step l pos hp with ⟨_, e⟩ | ⟨h1, h2, h3, h4⟩
     · rw [e]
       simp only
       rw [barR_byte, List.drop_eq_getElem_cons hp, List.any_cons]
       cases hb : barC l[pos] with
       | true => rw [if_pos rfl, Bool.true_or, decide_eq_true]; omega
       | false => rw [if_neg (by simp), Bool.false_or, idx_bar l f (pos + 1) (by omega)]
     · rw [barR_high h1, if_neg (by simp), idx_bar l f _ (by omega), <- any_skip barC l _ pos h3 (fun k hk a b => barC_high (h4 k hk a b))]
   · rw [if_neg hp, List.drop_of_length_le (by omega)]; rfl
theorem idx_any (l : List UInt8) : decide (0 <= Lib.idxFunc barR true (B l)) = l.any barC := by
 unfold Lib.idxFunc
 rw [idx_bar l _ 0 (by rw [B_size]; omega)]
 rfl
end Go.Proofs.YtfocpjcbfbbpgaaGreatDoor
