/-
  A text with a rune that is barred is a text with a byte that is barred. Plain. By an AI agent.
-/
import Derived.Test.YtdhmpakhdhdebaaGreatDoorZTerm1
import Derived.Lib.DecodeN
import Derived.Lib.MapLaws
import Derived.Laws.RangeString
import Derived.Shelf.GgClosure.StringsIndexFunc
namespace Go.Proofs.YtdhmpakhdhdebaaGreatDoor
open Go.RowKit
set_option maxRecDepth 100000
theorem get_B (l : List UInt8) (i : Nat) (h : i < l.length) : (B l).get! i = l[i] := by
 show (B l).data[i]! = _
 rw [getElem!_pos _ _ (by simpa [B] using h)]
 simp [B]
theorem dec_step (l : List UInt8) (pos : Nat) (h : pos < l.length) :
   (l[pos].toNat < 128 /\ Utf8.decode (B l) pos = (l[pos].toNat, 1)) \/
   (128 <= (Utf8.decode (B l) pos).1 /\ 1 <= (Utf8.decode (B l) pos).2 /\ pos + (Utf8.decode (B l) pos).2 <= l.length /\ ∀ k (hk : k < l.length), pos <= k -> k < pos + (Utf8.decode (B l) pos).2 -> 128 <= l[k].toNat) := by
 have hs : (B l).size = l.length := B_size l
 by_cases ha : l[pos].toNat < 128
 · refine .inl ⟨ha, ?_⟩
   have := decode_ascii (B l) pos (by rw [hs]; exact h) (by rw [B_get]; exact ha)
   rw [this, B_get]
 refine .inr ?_
 rw [Lib.decode_at, hs, get_B l pos h]
 have hg : ∀ j, pos + j < l.length -> ((B l).get! (pos + j)).toNat = (l.getD (pos + j) 0).toNat := fun j hj => by
   rw [get_B l _ hj, List.getD_eq_getElem?_getD, List.getElem?_eq_getElem hj]; rfl
 rcases Lib.decodeN_shape (l.length - pos) l[pos].toNat ((B l).get! (pos + 1)).toNat ((B l).get! (pos + 2)).toNat ((B l).get! (pos + 3)).toNat with ⟨c, e⟩ | ⟨c1, c2, c3, cv, e⟩ | ⟨c1, c2, c3, c4, cv, cs, e⟩ | ⟨c1, c2, c3, c4, c5, cv, cw, e⟩ | e
 · exact absurd c ha
 · rw [e]
   rw [get_B l _ (by omega)] at c3
   refine ⟨by simp only; omega, by simp, by simp only; omega, fun k hk h1 h2 => ?_⟩
   simp only at h2
   have : k = pos \/ k = pos + 1 := by omega
   rcases this with rfl | rfl <;> omega
 · rw [e]
   rw [get_B l _ (by omega)] at c3
   rw [get_B l _ (by omega)] at c4
   refine ⟨by simp only; omega, by simp, by simp only; omega, fun k hk h1 h2 => ?_⟩
   simp only at h2
   have : k = pos \/ k = pos + 1 \/ k = pos + 2 := by omega
   rcases this with rfl | rfl | rfl <;> omega
 · rw [e]
   rw [get_B l _ (by omega)] at c3
   rw [get_B l _ (by omega)] at c4
   rw [get_B l _ (by omega)] at c5
   refine ⟨by simp only; omega, by simp, by simp only; omega, fun k hk h1 h2 => ?_⟩
   simp only at h2
   have : k = pos \/ k = pos + 1 \/ k = pos + 2 \/ k = pos + 3 := by omega
   rcases this with rfl | rfl | rfl | rfl <;> omega
 · rw [e]
   refine ⟨by simp, by simp, by simp only; omega, fun k hk h1 h2 => ?_⟩
   simp only at h2
   have : k = pos := by omega
   subst this
   omega
end Go.Proofs.YtdhmpakhdhdebaaGreatDoor
