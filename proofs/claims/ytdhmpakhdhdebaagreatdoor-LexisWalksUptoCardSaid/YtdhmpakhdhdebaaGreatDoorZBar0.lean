/-
  A text with a rune that is barred is a text with a byte that is barred. Plain. By an AI agent.
-/
import Derived.Test.YtdhmpakhdhdebaaGreatDoorShelf
import Derived.Test.YtdhmpakhdhdebaaGreatDoorZGTag1
namespace Go.Proofs.YtdhmpakhdhdebaaGreatDoor
open Go.RowKit
set_option maxRecDepth 100000
theorem get_B (l : List UInt8) (i : Nat) (h : i < l.length) : (B l).get! i = l[i] := by
 show (B l).data[i]! = _
 rw [getElem!_pos _ _ (by simpa [B] using h)]
 simp [B]
theorem dec_step (l : List UInt8) (pos : Nat) (h : pos < l.length) :
  (l[pos].toNat < 128 /\ Utf8.decode (B l) pos = (l[pos].toNat, 1)) \/
  (128 <= (Utf8.decode (B l) pos).1 /\ 1 <= (Utf8.decode (B l) pos).2 /\ pos + (Utf8.decode (B l) pos).2 <= l.length /\ ∀ k (hk : k < l.length), pos <= k -> k < pos + (Utf8.decode (B l) pos).2 -> 128 <= l[k].toNat) := by
 have hs : (B l).size = l.length := B_size l
 by_cases ha : l[pos].toNat < 128
 ·refine .inl ⟨ha, ?_⟩
  have := decode_ascii (B l) pos (by rw [hs]; exact h) (by rw [B_get]; exact ha)
  rw [this, B_get]
 refine .inr ?_
 rw [Lib.decode_at, hs, get_B l pos h]
 have hg : ∀ j, pos + j < l.length -> ((B l).get! (pos + j)).toNat = (l.getD (pos + j) 0).toNat := fun j hj => by
  rw [get_B l _ hj, List.getD_eq_getElem?_getD, List.getElem?_eq_getElem hj]; rfl
 rcases Lib.decodeN_shape (l.length - pos) l[pos].toNat ((B l).get! (pos + 1)).toNat ((B l).get! (pos + 2)).toNat ((B l).get! (pos + 3)).toNat with ⟨c, e⟩ | ⟨c1, c2, c3, cv, e⟩ | ⟨c1, c2, c3, c4, cv, cs, e⟩ | ⟨c1, c2, c3, c4, c5, cv, cw, e⟩ | e
 ·exact absurd c ha
 ·rw [e]
  rw [get_B l _ (by omega)] at c3
  refine ⟨by simp only; omega, by simp, by simp only; omega, fun k hk h1 h2 => ?_⟩
  simp only at h2
  have : k = pos \/ k = pos + 1 := by omega
  rcases this with rfl | rfl <;> omega
 ·rw [e]
  rw [get_B l _ (by omega)] at c3
  rw [get_B l _ (by omega)] at c4
  refine ⟨by simp only; omega, by simp, by simp only; omega, fun k hk h1 h2 => ?_⟩
  simp only at h2
  have : k = pos \/ k = pos + 1 \/ k = pos + 2 := by omega
  rcases this with rfl | rfl | rfl <;> omega
 ·rw [e]
  rw [get_B l _ (by omega)] at c3
  rw [get_B l _ (by omega)] at c4
  rw [get_B l _ (by omega)] at c5
  refine ⟨by simp only; omega, by simp, by simp only; omega, fun k hk h1 h2 => ?_⟩
  simp only at h2
  have : k = pos \/ k = pos + 1 \/ k = pos + 2 \/ k = pos + 3 := by omega
  rcases this with rfl | rfl | rfl | rfl <;> omega
 ·rw [e]
  refine ⟨by simp, by simp, by simp only; omega, fun k hk h1 h2 => ?_⟩
  simp only at h2
  have : k = pos := by omega
  subst this
  omega
end Go.Proofs.YtdhmpakhdhdebaaGreatDoor
namespace Go.Proofs.YtdhmpakhdhdebaaGreatDoor
open Go.RowKit
set_option maxRecDepth 100000
theorem ix_none : ∀ (l : List UInt8) (c : UInt8), (∀ b ∈ l, b ≠ c) -> Lib.indexByte l c = -1
 | [], _, _ => rfl
 | b :: l, c, h => by
  have ih := ix_none l c (fun x hx => h x (List.mem_cons_of_mem _ hx))
  rw [Lib.indexByte, ih, beq_eq_false_iff_ne.2 (h b (List.mem_cons_self ..))]
  rfl
theorem encode_cases (x : Nat) (h1 : 128 <= x) (hv : Lib.validRune (x : Int) = true) :
  (∃ a b, Utf8.encode (x : Int) = ⟨#[a, b]⟩ /\ 128 <= b.toNat) \/ (∃ a b c, Utf8.encode (x : Int) = ⟨#[a, b, c]⟩ /\ 128 <= c.toNat) \/ (∃ a b c d, Utf8.encode (x : Int) = ⟨#[a, b, c, d]⟩ /\ 128 <= d.toNat) := by
 obtain ⟨f1, f2, f3⟩ := encode_facts (x : Int) (by rw [validRune_eq]; exact hv) (by omega)
 generalize Utf8.encode (x : Int) = rs at *
 obtain ⟨⟨l⟩⟩ := rs
 match l, f1, f2, f3 with
 | [a, b], _, _, f3 => exact .inl ⟨a, b, rfl, f3 (Nat.lt_succ_self 1)⟩
 | [a, b, c], _, _, f3 => exact .inr (.inl ⟨a, b, c, rfl, f3 (Nat.lt_succ_self 2)⟩)
 | [a, b, c, d], _, _, f3 => exact .inr (.inr ⟨a, b, c, d, rfl, f3 (Nat.lt_succ_self 3)⟩)
 | [], f1, _, _ => exact absurd f1 (by show ¬ 2 <= 0; omega)
 | [_], f1, _, _ => exact absurd f1 (by show ¬ 2 <= 1; omega)
 | _ :: _ :: _ :: _ :: _ :: t, _, f2, _ => exact absurd f2 (by show ¬ (t.length + 1 + 1 + 1 + 1 + 1 <= 4); omega)
theorem quiet_add_same {P : Program} {f : FuncId} {args : Array Value} {w : World} {a n : Nat} {v : Value}
  (h : Calls P f args (w.drewN (a + n)) fun e w' => e = .returned v /\ w' = w.drewN (a + n)) :
  Calls P f args (w.drewN (a + n)) fun e w'' => e = .returned v /\ ∃ m, w'' = w.drewN (a + m) :=
 h.mono fun _ _ ⟨he, hm⟩ => ⟨he, n, hm⟩
theorem indexByte_high (c : UInt8) (hc : 128 <= c.toNat) (t : ByteArray) (ht : ∀ b ∈ t.data.toList, b.toNat < 128) (u : World) :
  Calls Tryz.prog 72 #[.string t, .int .u8 (c.toNat : Int)] u fun e w' => e = .returned (.int .i64 (-1)) /\ w' = u := by
 have h := Tryz.strings_IndexByte t (c.toNat : Int) u
 rw [show ((c.toNat : Int).toNat.toUInt8) = c from by simp, ix_none _ c (fun b hb e => by have := ht b hb; rw [e] at this; omega)] at h
 exact h
end Go.Proofs.YtdhmpakhdhdebaaGreatDoor
