/-
  iri.barred over every rune; strings.ContainsRune and IndexRune of a rune that is no ASCII, in the text of the signs: contracts. By an AI agent.
-/
import Derived.Test.YtdhmpakhdhdebaaGreatDoorShelf
import Derived.Test.YtdhmpakhdhdebaaGreatDoorZBar0
import Derived.Test.YtdhmpakhdhdebaaGreatDoorZGTag1
import Derived.Laws.Runes
import Derived.Shelf.Strings.FuncGrows
import Derived.BigQuiet
import Derived.Deep.QuietTactic
namespace Go.Proofs.YtdhmpakhdhdebaaGreatDoor
open Go.RowKit
set_option maxRecDepth 100000
theorem ix_none : ∀ (l : List UInt8) (c : UInt8), (∀ b ∈ l, b ≠ c) -> Lib.indexByte l c = -1
 | [], _, _ => rfl
 | b :: l, c, h => by
   have ih := ix_none l c (fun x hx => h x (List.mem_cons_of_mem _ hx))
   rw [Lib.indexByte, ih, beq_eq_false_iff_ne.2 (h b (List.mem_cons_self ..))]
   rfl
theorem encode_cases (x : Nat) (h1 : 128 <= x) (hv : Lib.validRune (x : Int) = true) :
   (∃ a b, Utf8.encode (x : Int) = ⟨#[a, b]⟩ /\ 128 <= b.toNat) \/ (∃ a b c, Utf8.encode (x : Int) = ⟨#[a, b, c]⟩ /\ 128 <= c.toNat) \/ (∃ a b c d, Utf8.encode (x : Int) = ⟨#[a, b, c, d]⟩ /\ 128 <= d.toNat) := by
 obtain ⟨f1, f2, f3⟩ := encode_facts (x : Int) (by rw [validRune_eq]; exact hv) (by omega)
 generalize Utf8.encode (x : Int) = rs at *
 obtain ⟨⟨l⟩⟩ := rs
 match l, f1, f2, f3 with
 | [a, b], _, _, f3 => exact .inl ⟨a, b, rfl, f3 (Nat.lt_succ_self 1)⟩
 | [a, b, c], _, _, f3 => exact .inr (.inl ⟨a, b, c, rfl, f3 (Nat.lt_succ_self 2)⟩)
 | [a, b, c, d], _, _, f3 => exact .inr (.inr ⟨a, b, c, d, rfl, f3 (Nat.lt_succ_self 3)⟩)
 | [], f1, _, _ => exact absurd f1 (by show ¬ 2 <= 0; omega)
 | [_], f1, _, _ => exact absurd f1 (by show ¬ 2 <= 1; omega)
 | _ :: _ :: _ :: _ :: _ :: t, _, f2, _ => exact absurd f2 (by show ¬ (t.length + 1 + 1 + 1 + 1 + 1 <= 4); omega)
theorem quiet_add_same {P : Program} {f : FuncId} {args : Array Value} {w : World} {a n : Nat} {v : Value}
   (h : Calls P f args (w.drewN (a + n)) fun e w' => e = .returned v /\ w' = w.drewN (a + n)) :
   Calls P f args (w.drewN (a + n)) fun e w'' => e = .returned v /\ ∃ m, w'' = w.drewN (a + m) :=
 h.mono fun _ _ ⟨he, hm⟩ => ⟨he, n, hm⟩
theorem indexByte_high (c : UInt8) (hc : 128 <= c.toNat) (t : ByteArray) (ht : ∀ b ∈ t.data.toList, b.toNat < 128) (u : World) :
   Calls Tryz.prog 72 #[.string t, .int .u8 (c.toNat : Int)] u fun e w' => e = .returned (.int .i64 (-1)) /\ w' = u := by
 have h := Tryz.strings_IndexByte t (c.toNat : Int) u
 rw [show ((c.toNat : Int).toNat.toUInt8) = c from by simp, ix_none _ c (fun b hb e => by have := ht b hb; rw [e] at this; omega)] at h
 exact h
end Go.Proofs.YtdhmpakhdhdebaaGreatDoor
