/-
  names.made: contract. By an AI agent.
  The small tests of names' tag reader: contracts. By an AI agent.
  names.tagReader: what it holds; next: contract. By an AI agent.
  names.tagReader's sees, at each of its tests: contracts. By an AI agent.
  names.tagReader's tail: contract. By an AI agent.
  names.tagReader's language: contract.  By an AI agent.
-/
import Derived.Test.YtdhmpakhdhdebaaGreatDoorZApp
import Derived.RangeFuncBox
import Derived.Deep.RegionWith
namespace Go.Proofs.YtdhmpakhdhdebaaGreatDoor
open Go.Lib (hid)
open Go.RowKit
set_option maxRecDepth 100000
theorem next_ascii {P : Program} (w : World) (l : List UInt8) (j : Nat) (ty : TypeId) (h : j < l.length) (ha : l[j].toNat < 128) :
  (Instr.next (.pointer (some ⟨w.heap.size, 0, none⟩)) true ty).run P (w.iter (B l) j) = .ok (.tuple #[.bool true, .int .i64 (j : Int), .int .i32 (l[j].toNat : Int)]) (w.iter (B l) (j + 1)) := by
 have h' : j < (B l).size := by rw [B_size]; exact h
 have e : (B l)[j] = l[j] := B_get l j h'
 have := run_next_ascii (P := P) w (B l) j ty h' (by rw [e]; exact ha)
 rw [e] at this
 exact this
theorem next_high {P : Program} (w : World) (l : List UInt8) (j : Nat) (ty : TypeId) (h : j < l.length) (ha : ¬ l[j].toNat < 128) :
  ∃ r n : Nat, 128 <= r /\ (Instr.next (.pointer (some ⟨w.heap.size, 0, none⟩)) true ty).run P (w.iter (B l) j) = .ok (.tuple #[.bool true, .int .i64 (j : Int), .int .i32 (r : Int)]) (w.iter (B l) n) := by
 have h' : j < (B l).size := by rw [B_size]; exact h
 have e : (B l)[j] = l[j] := B_get l j h'
 have hd := decode_high (B l) j h' (by rw [e]; omega)
 exact ⟨_, _, hd.1, run_next_any (P := P) w (B l) j ty h'⟩
theorem next_end {P : Program} (w : World) (l : List UInt8) (ty : TypeId) :
  (Instr.next (.pointer (some ⟨w.heap.size, 0, none⟩)) true ty).run P (w.iter (B l) l.length) = .ok (.tuple #[.bool false]) (w.iter (B l) l.length) :=
 run_next_end (P := P) w (B l) l.length ty (by rw [B_size]; omega)
theorem letterB_hi {r : Nat} (h : 128 <= r) : letterB (r : Int) = false := by unfold letterB; simp; omega
theorem digitB_hi {r : Nat} (h : 128 <= r) : digitB (r : Int) = false := by unfold digitB; simp; omega
theorem letterB_byte (c : UInt8) : letterB (c.toNat : Int) = alphaC c := by
 rw [Bool.eq_iff_iff]; unfold letterB alphaC; simp; omega
theorem digitB_byte (c : UInt8) : digitB (c.toNat : Int) = digC c := by
 rw [Bool.eq_iff_iff]; unfold digitB digC; simp; omega
def okFrom (p : List UInt8) (pure : Bool) (j : Nat) : Bool := (p.drop j).all fun c => alphaC c || (!pure && digC c)
theorem okFrom_end (p : List UInt8) (pure : Bool) : okFrom p pure p.length = true := by unfold okFrom; simp
theorem okFrom_step {p : List UInt8} {pure : Bool} {j : Nat} (h : j < p.length) : okFrom p pure j = ((alphaC p[j] || (!pure && digC p[j])) && okFrom p pure (j + 1)) := by
 unfold okFrom
 rw [List.drop_eq_getElem_cons h, List.all_cons]
theorem low_of_ok {c : UInt8} {pure : Bool} (h : (alphaC c || (!pure && digC c)) = true) : c.toNat < 128 := by
 unfold alphaC digC at h
 simp at h
 omega
set_option maxHeartbeats 1600000 in
theorem made_l (p : List UInt8) (lo hi : Nat) (pure : Bool) (w : World) (_hp : p.length <= 140737488351232) (_h1 : lo <= 1000) (_h2 : hi <= 1000) :
  Calls Tryz.prog 196 #[.string (B p), .int .i64 (lo : Int), .int .i64 (hi : Int), .bool pure] w fun e w' => e = .returned (.bool (madeB p lo hi pure)) /\ Below w.heap.size w w' := by
 have LET := hid letter_any
 have DIG := hid digit_any
 go_enter Tryz.func196, Tryz.ntmps196
 go_wp2_with fail
 go_loopw [10] (fun _ wr => ∃ j : Nat, j <= p.length /\ wr = w.iter (B p) j /\ Hid (madeB p lo hi pure = (okFrom p pure j && (decide (lo <= p.length) && decide (p.length <= hi))))) (fun _ wr => p.length - wr.iterPos w.heap.size)
 case atStart => exact ⟨0, Nat.zero_le _, rfl, hid (by unfold madeB okFrom; simp)⟩
 case round =>
  obtain ⟨j, hj, rfl, HM⟩ := hrel
  by_cases hlt : j < p.length
  ·by_cases ha : p[j].toNat < 128
   ·have hnx := fun ty => next_ascii (P := Tryz.prog) w p j ty hlt ha
    obtain ⟨c, hc⟩ : ∃ c, p[j] = c := ⟨_, rfl⟩
    have hst := okFrom_step (pure := pure) hlt
    rw [hc] at hnx hst
    cases ha1 : alphaC c with
    | true =>
     have hl1 : letterB (c.toNat : Int) = true := by rw [letterB_byte]; exact ha1
     have HE : Hid (madeB p lo hi pure = (okFrom p pure (j + 1) && (decide (lo <= p.length) && decide (p.length <= hi)))) := hid (by rw [HM.out, hst, ha1, Bool.true_or, Bool.true_and])
     clear HM hst ha hc ha1
     go_wp2_with (first | (go_at_call 205; (with_reducible refine (LET.out _ _).mono ?_); rintro e w1 ⟨rfl, rfl⟩) | (go_at_call 171; (with_reducible refine (DIG.out _ _).mono ?_); rintro e w2 ⟨rfl, rfl⟩) | fail)
     go_roundw
     case rel => exact ⟨j + 1, hlt, rfl, HE⟩
     case measure => simp; omega
    | false =>
     have hl1 : letterB (c.toNat : Int) = false := by rw [letterB_byte]; exact ha1
     cases hpu : pure with
     | true =>
      have HE : Hid (madeB p lo hi pure = false) := hid (by rw [HM.out, hst, ha1, hpu]; rfl)
      subst hpu
      clear HM hst ha hc ha1
      go_wp2_with (first | (go_at_call 205; (with_reducible refine (LET.out _ _).mono ?_); rintro e w1 ⟨rfl, rfl⟩) | (go_at_call 171; (with_reducible refine (DIG.out _ _).mono ?_); rintro e w2 ⟨rfl, rfl⟩) | fail)
      go_ret
      exact ⟨ret_bool HE.out.symm, (Below.refl _ _).alloc (Nat.le_refl _) _⟩
     | false =>
      subst hpu
      cases hd1 : digC c with
      | true =>
       have hl2 : digitB (c.toNat : Int) = true := by rw [digitB_byte]; exact hd1
       have HE : Hid (madeB p lo hi false = (okFrom p false (j + 1) && (decide (lo <= p.length) && decide (p.length <= hi)))) := hid (by rw [HM.out, hst, ha1, hd1]; rfl)
       clear HM hst ha hc ha1 hd1
       go_wp2_with (first | (go_at_call 205; (with_reducible refine (LET.out _ _).mono ?_); rintro e w1 ⟨rfl, rfl⟩) | (go_at_call 171; (with_reducible refine (DIG.out _ _).mono ?_); rintro e w2 ⟨rfl, rfl⟩) | fail)
       go_roundw
       case rel => exact ⟨j + 1, hlt, rfl, HE⟩
       case measure => simp; omega
      | false =>
       have hl2 : digitB (c.toNat : Int) = false := by rw [digitB_byte]; exact hd1
       have HE : Hid (madeB p lo hi false = false) := hid (by rw [HM.out, hst, ha1, hd1]; rfl)
       clear HM hst ha hc ha1 hd1
       go_wp2_with (first | (go_at_call 205; (with_reducible refine (LET.out _ _).mono ?_); rintro e w1 ⟨rfl, rfl⟩) | (go_at_call 171; (with_reducible refine (DIG.out _ _).mono ?_); rintro e w2 ⟨rfl, rfl⟩) | fail)
       go_ret
       exact ⟨ret_bool HE.out.symm, (Below.refl _ _).alloc (Nat.le_refl _) _⟩
   ·have hok : (alphaC p[j] || (!pure && digC p[j])) = false := by
     cases h : (alphaC p[j] || (!pure && digC p[j])) with
     | false => rfl
     | true => exact absurd (low_of_ok h) ha
    have HE : Hid (madeB p lo hi pure = false) := hid (by rw [HM.out, okFrom_step hlt, hok]; rfl)
    obtain ⟨r, hr0, n, hr, hnx⟩ : ∃ r : Nat, True /\ ∃ n : Nat, 128 <= r /\ ∀ ty, (Instr.next (.pointer (some ⟨w.heap.size, 0, none⟩)) true ty).run Tryz.prog (w.iter (B p) j) = .ok (.tuple #[.bool true, .int .i64 (j : Int), .int .i32 (r : Int)]) (w.iter (B p) n) := by
     obtain ⟨r, n, h1, h2⟩ := next_high (P := Tryz.prog) w p j 0 hlt ha
     exact ⟨r, trivial, n, h1, fun ty => h2⟩
    have hl1 := letterB_hi hr
    have hl2 := digitB_hi hr
    clear HM hok ha hr hr0
    cases pure <;> (
     go_wp2_with (first | (go_at_call 205; (with_reducible refine (LET.out _ _).mono ?_); rintro e w1 ⟨rfl, rfl⟩) | (go_at_call 171; (with_reducible refine (DIG.out _ _).mono ?_); rintro e w2 ⟨rfl, rfl⟩) | fail)
     go_ret
     exact ⟨ret_bool HE.out.symm, (Below.refl _ _).alloc (Nat.le_refl _) _⟩)
  ·obtain rfl : j = p.length := by omega
   have hnx := fun ty => next_end (P := Tryz.prog) w p ty
   rw [okFrom_end, Bool.true_and] at HM
   by_cases hlo : lo <= p.length
   ·rw [decide_eq_true hlo, Bool.true_and] at HM
    go_wp2_with fail
    go_ret
    exact ⟨ret_bool (by rw [HM.out] <;> simp), (Below.refl _ _).alloc (Nat.le_refl _) _⟩
   ·rw [decide_eq_false hlo, Bool.false_and] at HM
    go_wp2_with fail
    go_ret
    exact ⟨ret_bool (by rw [HM.out] <;> rfl), (Below.refl _ _).alloc (Nat.le_refl _) _⟩
end Go.Proofs.YtdhmpakhdhdebaaGreatDoor
namespace Go.Proofs.YtdhmpakhdhdebaaGreatDoor
open Go.Lib (hid)
open Go.RowKit
set_option maxRecDepth 100000
theorem wrap32_byte (b : UInt8) : IntKind.i32.wrap (b.toNat : Int) = (b.toNat : Int) := by
 have := b.toNat_lt
 simp [IntKind.wrap, IntKind.bits, IntKind.signed]
 omega
theorem private_l (p : List UInt8) (w : World) : Calls Tryz.prog 147 #[.string (B p)] w fun e w' => e = .returned (.bool (privB p)) /\ w' = w := by
 cases h1 : (p == [120]) with
 | true =>
  have HE : Hid (privB p = true) := hid (by unfold privB; rw [h1]; rfl)
  go_enter Tryz.func147, Tryz.ntmps147
  go_wp2_with fail
  go_ret
  exact ⟨ret_bool HE.out.symm, rfl⟩
 | false =>
  have HE : Hid (privB p = (p == [88])) := hid (by unfold privB; rw [h1]; rfl)
  go_enter Tryz.func147, Tryz.ntmps147
  go_wp2_with fail
  go_ret
  exact ⟨ret_bool HE.out.symm, rfl⟩
theorem lang1_l (p : List UInt8) (w : World) (hp : p.length <= 140737488351232) : Calls Tryz.prog 195 #[.string (B p)] w fun e w' => e = .returned (.bool (madeB p 2 8 true)) /\ Below w.heap.size w w' := by
 have MA := hid (fun w => made_l p 2 8 true w hp (by omega) (by omega))
 go_enter Tryz.func195, Tryz.ntmps195
 go_wp2_with (go_at_call 196; refine (MA.out _).mono ?_; rintro e w1 ⟨rfl, hb1⟩)
 go_ret
 exact ⟨rfl, hb1⟩
theorem lang2_l (p : List UInt8) (w : World) (hp : p.length <= 140737488351232) : Calls Tryz.prog 197 #[.string (B p)] w fun e w' => e = .returned (.bool (madeB p 3 3 true)) /\ Below w.heap.size w w' := by
 have MA := hid (fun w => made_l p 3 3 true w hp (by omega) (by omega))
 go_enter Tryz.func197, Tryz.ntmps197
 go_wp2_with (go_at_call 196; refine (MA.out _).mono ?_; rintro e w1 ⟨rfl, hb1⟩)
 go_ret
 exact ⟨rfl, hb1⟩
theorem rest1_l (p : List UInt8) (w : World) (hp : p.length <= 140737488351232) : Calls Tryz.prog 198 #[.string (B p)] w fun e w' => e = .returned (.bool (madeB p 4 4 true)) /\ Below w.heap.size w w' := by
 have MA := hid (fun w => made_l p 4 4 true w hp (by omega) (by omega))
 go_enter Tryz.func198, Tryz.ntmps198
 go_wp2_with (go_at_call 196; refine (MA.out _).mono ?_; rintro e w1 ⟨rfl, hb1⟩)
 go_ret
 exact ⟨rfl, hb1⟩
theorem tail1_l (p : List UInt8) (lo b : Nat) (w : World) (hp : p.length <= 140737488351232) (hlo : lo <= 1000) (hc : w.cell? ⟨b, 0, none⟩ = some (.int .i64 (lo : Int))) : Calls Tryz.prog 203 #[.string (B p), .pointer (some ⟨b, 0, none⟩)] w fun e w' => e = .returned (.bool (madeB p lo 8 false)) /\ Below w.heap.size w w' := by
 have MA := hid (fun w => made_l p lo 8 false w hp hlo (by omega))
 go_enter Tryz.func203, Tryz.ntmps203
 go_wp2_with (go_at_call 196; refine (MA.out _).mono ?_; rintro e w1 ⟨rfl, hb1⟩)
 go_ret
 exact ⟨rfl, hb1⟩
theorem rest2_l (p : List UInt8) (w : World) (hp : p.length <= 140737488351232) : Calls Tryz.prog 202 #[.string (B p)] w fun e w' => e = .returned (.bool (madeB p 1 1 false && !privB p)) /\ Below w.heap.size w w' := by
 obtain ⟨q, hq⟩ : ∃ q, madeB p 1 1 false = q := ⟨_, rfl⟩
 have MA : Hid (∀ w, Calls Tryz.prog 196 #[.string (B p), .int .i64 1, .int .i64 1, .bool false] w fun e w' => e = .returned (.bool q) /\ Below w.heap.size w w') := hid (fun w => hq ▸ made_l p 1 1 false w hp (by omega) (by omega))
 have PR := hid (private_l p)
 rw [hq]
 clear hq
 cases q <;> (
  go_enter Tryz.func202, Tryz.ntmps202
  go_wp2_with (first | (go_at_call 196; (with_reducible refine (MA.out _).mono ?_); rintro e w1 ⟨rfl, hb1⟩) | (go_at_call 147; (with_reducible refine (PR.out _).mono ?_); rintro e w2 ⟨rfl, rfl⟩) | fail)
  go_ret
  exact ⟨rfl, hb1⟩)
theorem variant_l (p : List UInt8) (w : World) (hp : p.length <= 140737488351232) : Calls Tryz.prog 200 #[.string (B p)] w fun e w' => e = .returned (.bool (variantB p)) /\ Below w.heap.size w w' := by
 obtain ⟨q, hq⟩ : ∃ q, madeB p 5 8 false = q := ⟨_, rfl⟩
 obtain ⟨q2, hq2⟩ : ∃ q, madeB p 4 4 false = q := ⟨_, rfl⟩
 have MA : Hid (∀ w, Calls Tryz.prog 196 #[.string (B p), .int .i64 5, .int .i64 8, .bool false] w fun e w' => e = .returned (.bool q) /\ Below w.heap.size w w') := hid (fun w => hq ▸ made_l p 5 8 false w hp (by omega) (by omega))
 have MB : Hid (∀ w, Calls Tryz.prog 196 #[.string (B p), .int .i64 4, .int .i64 4, .bool false] w fun e w' => e = .returned (.bool q2) /\ Below w.heap.size w w') := hid (fun w => hq2 ▸ made_l p 4 4 false w hp (by omega) (by omega))
 have DIG := hid digit_any
 have hv : variantB p = (q || (q2 && digC (p.headD 0))) := by unfold variantB; rw [hq, hq2]
 have hl : q2 = true -> p.length = 4 := fun h => by rw [h] at hq2; unfold madeB at hq2; simp at hq2; omega
 rw [hv]
 clear hq hq2 hv
 cases q with
 | true =>
  go_enter Tryz.func200, Tryz.ntmps200
  go_wp2_with (go_at_call 196; (with_reducible refine (MA.out _).mono ?_); rintro e w1 ⟨rfl, hb1⟩)
  go_ret
  exact ⟨rfl, hb1⟩
 | false =>
  cases q2 with
  | false =>
   clear hl
   go_enter Tryz.func200, Tryz.ntmps200
   go_wp2_with (first | (go_at_call 196; (with_reducible refine (MA.out _).mono ?_); rintro e w1 ⟨rfl, hb1⟩) | (go_at_call 196; (with_reducible refine (MB.out _).mono ?_); rintro e w2 ⟨rfl, hb2⟩) | fail)
   go_ret
   exact ⟨rfl, hb1.trans (hb2.mono hb1.size)⟩
  | true =>
   have hl4 := hl rfl
   have h0 : 0 < p.length := by omega
   obtain ⟨c, hc⟩ : ∃ c, p[0] = c := ⟨_, rfl⟩
   have HE : Hid (digC (p.headD 0) = digitB (c.toNat : Int)) := hid (by rw [digitB_byte, <- hc]; cases p with | nil => simp at h0 | cons a t => rfl)
   have hw := wrap32_byte c
   clear hl
   go_enter Tryz.func200, Tryz.ntmps200
   go_wp2_with (first | (go_at_call 196; (with_reducible refine (MA.out _).mono ?_); rintro e w1 ⟨rfl, hb1⟩) | (go_at_call 196; (with_reducible refine (MB.out _).mono ?_); rintro e w2 ⟨rfl, hb2⟩) | (go_at_call 171; (with_reducible refine (DIG.out _ _).mono ?_); rintro e w3 ⟨rfl, rfl⟩) | fail)
   go_ret
   exact ⟨ret_bool (by rw [HE.out]; rfl), hb1.trans (hb2.mono hb1.size)⟩
theorem all3 (p : List UInt8) (h : p.length = 3) : p.all digC = (digC (p[0]'(by omega)) && (digC (p[1]'(by omega)) && digC (p[2]'(by omega)))) := by
 match p, h with
 | [x, y, z], _ => simp
theorem region_l (p : List UInt8) (w : World) (hp : p.length <= 140737488351232) : Calls Tryz.prog 199 #[.string (B p)] w fun e w' => e = .returned (.bool (regionB p)) /\ Below w.heap.size w w' := by
 obtain ⟨q, hq⟩ : ∃ q, madeB p 2 2 true = q := ⟨_, rfl⟩
 have MA : Hid (∀ w, Calls Tryz.prog 196 #[.string (B p), .int .i64 2, .int .i64 2, .bool true] w fun e w' => e = .returned (.bool q) /\ Below w.heap.size w w') := hid (fun w => hq ▸ made_l p 2 2 true w hp (by omega) (by omega))
 have DIG := hid digit_any
 have hv : regionB p = (q || (p.length == 3 && p.all digC)) := by unfold regionB; rw [hq]
 rw [hv]
 clear hq hv
 cases q with
 | true =>
  go_enter Tryz.func199, Tryz.ntmps199
  go_wp2_with (first | (go_at_call 196; (with_reducible refine (MA.out _).mono ?_); rintro e w1 ⟨rfl, hb1⟩) | (go_at_call 171; (with_reducible refine (DIG.out _ _).mono ?_); rintro e w3 ⟨rfl, rfl⟩) | fail)
  go_ret
  exact ⟨rfl, hb1⟩
 | false =>
  cases h3 : (p.length == 3) with
  | false =>
   have h3' : ((p.length : Int) == 3) = false := beq_eq_false_iff_ne.2 (by have := beq_eq_false_iff_ne.1 h3; omega)
   clear h3
   go_enter Tryz.func199, Tryz.ntmps199
   go_wp2_with (first | (go_at_call 196; (with_reducible refine (MA.out _).mono ?_); rintro e w1 ⟨rfl, hb1⟩) | (go_at_call 171; (with_reducible refine (DIG.out _ _).mono ?_); rintro e w3 ⟨rfl, rfl⟩) | fail)
   go_ret
   exact ⟨rfl, hb1⟩
  | true =>
   have hl := beq_iff_eq.1 h3
   have h3' : ((p.length : Int) == 3) = true := beq_iff_eq.2 (by omega)
   have l0 : 0 < p.length := by omega
   have l1 : 1 < p.length := by omega
   have l2 : 2 < p.length := by omega
   obtain ⟨a, ha⟩ : ∃ a, p[0] = a := ⟨_, rfl⟩
   obtain ⟨b, hb⟩ : ∃ b, p[1] = b := ⟨_, rfl⟩
   obtain ⟨c, hc⟩ : ∃ c, p[2] = c := ⟨_, rfl⟩
   have HA : p.all digC = (digitB (a.toNat : Int) && (digitB (b.toNat : Int) && digitB (c.toNat : Int))) := by
    rw [digitB_byte, digitB_byte, digitB_byte, <- ha, <- hb, <- hc]
    exact all3 p hl
   rw [HA]
   have wa := wrap32_byte a; have wb := wrap32_byte b; have wc := wrap32_byte c
   clear h3 hl HA
   cases d1 : digitB (a.toNat : Int) with
   | false =>
    go_enter Tryz.func199, Tryz.ntmps199
    go_wp2_with (first | (go_at_call 196; (with_reducible refine (MA.out _).mono ?_); rintro e w1 ⟨rfl, hb1⟩) | (go_at_call 171; (with_reducible refine (DIG.out _ _).mono ?_); rintro e w3 ⟨rfl, rfl⟩) | fail)
    go_ret
    exact ⟨rfl, hb1⟩
   | true =>
    cases d2 : digitB (b.toNat : Int) with
    | false =>
     go_enter Tryz.func199, Tryz.ntmps199
     go_wp2_with (first | (go_at_call 196; (with_reducible refine (MA.out _).mono ?_); rintro e w1 ⟨rfl, hb1⟩) | (go_at_call 171; (with_reducible refine (DIG.out _ _).mono ?_); rintro e w3 ⟨rfl, rfl⟩) | fail)
     go_ret
     exact ⟨rfl, hb1⟩
    | true =>
     go_enter Tryz.func199, Tryz.ntmps199
     go_wp2_with (first | (go_at_call 196; (with_reducible refine (MA.out _).mono ?_); rintro e w1 ⟨rfl, hb1⟩) | (go_at_call 171; (with_reducible refine (DIG.out _ _).mono ?_); rintro e w3 ⟨rfl, rfl⟩) | fail)
     go_ret
     exact ⟨rfl, hb1⟩
end Go.Proofs.YtdhmpakhdhdebaaGreatDoor
namespace Go.Proofs.YtdhmpakhdhdebaaGreatDoor
open Go.Lib (hid)
open Go.RowKit
set_option maxRecDepth 100000
def ViewAt (w : World) (k : Nat) (v : Value) (xs : List (List UInt8)) : Prop :=
 ∃ o cap, v = .slice (some ⟨k, o, none⟩) xs.length cap /\ xs.length <= cap /\ ∀ (i : Nat) (h : i < xs.length), w.cell? ⟨k, o + i, none⟩ = some (strV xs[i])
theorem ViewAt.view {w : World} {k : Nat} {v : Value} {xs : List (List UInt8)} (h : ViewAt w k v xs) : View w v xs := by
 obtain ⟨o, cap, h⟩ := h
 exact ⟨k, o, cap, h⟩
theorem ViewAt.empty {w : World} {k : Nat} {v : Value} (h : ViewAt w k v []) : ∃ o cap, v = .slice (some ⟨k, o, none⟩) 0 cap := by
 obtain ⟨o, cap, he, _⟩ := h
 exact ⟨o, cap, he⟩
theorem ViewAt.cons {w : World} {k : Nat} {v : Value} {x : List UInt8} {xs : List (List UInt8)} (h : ViewAt w k v (x :: xs)) :
  ∃ o cap, v = .slice (some ⟨k, o, none⟩) (xs.length + 1) cap /\ xs.length + 1 <= cap /\ w.cell? ⟨k, o, none⟩ = some (.string (B x)) /\ ViewAt w k (tailSV k o (xs.length + 1) cap) xs := by
 obtain ⟨o, cap, rfl, hc, hx⟩ := h
 refine ⟨o, cap, rfl, hc, hx 0 (by simp), ?_⟩
 by_cases h1 : cap = 1
 ·subst h1
  have : xs = [] := List.length_eq_zero_iff.1 (by rw [List.length_cons] at hc; omega)
  subst this
  exact ⟨o, 0, by simp [tailSV, sliced], Nat.le_refl _, fun i hi => absurd hi (by simp)⟩
 ·refine ⟨o + 1, cap - 1, ?_, by simp at hc; omega, ?_⟩
  ·simp [tailSV, sliced, h1, Addr.add]
  ·intro i hi
   have := hx (i + 1) (by simp; omega)
   rw [show o + 1 + i = o + (i + 1) by omega]
   simpa using this
theorem ViewAt.grown {w w' : World} {row : Option Nat} {k : Nat} {v : Value} {xs : List (List UInt8)} (h : ViewAt w k v xs) (hg : w.grownBy w' row) (hne : some k ≠ row) : ViewAt w' k v xs := by
 obtain ⟨o, cap, rfl, hc, hx⟩ := h
 refine ⟨o, cap, rfl, hc, fun i hi => ?_⟩
 have h1 := hx i hi
 have e := hg.block k (World.block_lt_of_cell? _ _ h1) hne
 simpa [World.cell?, e] using h1
theorem ViewAt.below {w w' : World} {k : Nat} {v : Value} {xs : List (List UInt8)} (h : ViewAt w k v xs) (hb : Below w.heap.size w w') : ViewAt w' k v xs := by
 obtain ⟨o, cap, rfl, hc, hx⟩ := h
 exact ⟨o, cap, rfl, hc, fun i hi => by
  have h1 := hx i hi
  rw [hb.cell (p := ⟨k, o + i, none⟩) (World.block_lt_of_cell? _ _ h1)]
  exact h1⟩
theorem sizeStr3 (w : World) : (Go.sizeOf 9).run Tryz.prog w = .ok 1 w := Tryz.sizeOf9 w
set_option maxHeartbeats 1600000 in
theorem tnext_l (b k : Nat) (p : List UInt8) (ps : List (List UInt8)) (lv : Value) (fs : List Value) (w : World) (hv : ViewAt w k lv (p :: ps)) (hR : RowAt w b (lv :: fs)) (hk : k ≠ b) :
  Calls Tryz.prog 150 #[.pointer (some ⟨b, 0, none⟩)] w fun e w' => e = .returned (.string (B p)) /\ ∃ lv', ViewAt w' k lv' ps /\ RowAt w' b (lv' :: fs) /\ w.grownBy w' (some b) := by
 obtain ⟨o, cap, rfl, hc, hd, hv2⟩ := hv.cons
 have c0 := hR.cell (j := 0) (by simp)
 have f0 := hR.free (j := 0) (by simp)
 simp only [List.getElem_cons_zero] at c0
 have TAIL := fun wx => run_tail (P := Tryz.prog) 190 9 Tryz.underlying190 sizeStr3 k o (ps.length + 1) cap (by omega) wx
 have hg : w.grownBy (w.setCell ⟨b, 0, none⟩ (tailSV k o (ps.length + 1) cap)) (some b) := grownBy_setCell' w b _
 have V2 := hid (hv2.grown hg (by simpa using hk))
 have R2 := hid (hR.set (j := 0) (by simp) (tailSV k o (ps.length + 1) cap))
 have HG := hid hg
 obtain ⟨tv, htv⟩ : ∃ tv, tailSV k o (ps.length + 1) cap = tv := ⟨_, rfl⟩
 have htf : ∃ ao n c, tv = .slice ao n c := by rw [<- htv]; unfold tailSV sliced; exact ⟨_, _, _, rfl⟩
 rw [htv] at V2 R2 HG TAIL
 obtain ⟨ao, n, c, rfl⟩ := htf
 clear hv hv2 hR hg htv
 go_enter Tryz.func150, Tryz.ntmps150
 go_wp2_with fail
 go_ret
 exact ⟨rfl, _, V2.out, by simpa using R2.out, HG.out⟩
end Go.Proofs.YtdhmpakhdhdebaaGreatDoor
namespace Go.Proofs.YtdhmpakhdhdebaaGreatDoor
open Go.Lib (hid)
open Go.RowKit
set_option maxRecDepth 100000
def seesF (f : List UInt8 -> Bool) : List (List UInt8) -> Bool
 | [] => false
 | p :: _ => f p
set_option maxHeartbeats 800000 in
theorem sees_priv (b k : Nat) (ps : List (List UInt8)) (lv : Value) (fs : List Value) (w : World) (hv : ViewAt w k lv ps) (hR : RowAt w b (lv :: fs)) (hp : ∀ p ∈ ps, p.length <= 140737488351232) :
  Calls Tryz.prog 146 #[.pointer (some ⟨b, 0, none⟩), .func (.func 147) #[] #[]] w fun e w' => e = .returned (.bool (seesF (privB) ps)) /\ Below w.heap.size w w' := by
 have c0 := hR.cell (j := 0) (by simp)
 simp only [List.getElem_cons_zero] at c0
 rcases ps with _ | ⟨p, ps⟩
 ·obtain ⟨o, cap, rfl⟩ := hv.empty
  clear hv hR hp
  go_enter Tryz.func146, Tryz.ntmps146
  go_wp2_with fail
  go_ret
  exact ⟨rfl, Below.refl _ _⟩
 ·obtain ⟨o, cap, rfl, hcc, hd, _⟩ := hv.cons
  have CL := hid (private_l p w)
  clear hv hR hp
  go_enter Tryz.func146, Tryz.ntmps146
  go_wp2_with (go_at_call 147; (with_reducible refine CL.out.mono ?_); rintro e w1 ⟨rfl, rfl⟩)
  go_ret
  exact ⟨rfl, Below.refl _ _⟩
set_option maxHeartbeats 800000 in
theorem sees_variant (b k : Nat) (ps : List (List UInt8)) (lv : Value) (fs : List Value) (w : World) (hv : ViewAt w k lv ps) (hR : RowAt w b (lv :: fs)) (hp : ∀ p ∈ ps, p.length <= 140737488351232) :
  Calls Tryz.prog 146 #[.pointer (some ⟨b, 0, none⟩), .func (.func 200) #[] #[]] w fun e w' => e = .returned (.bool (seesF (variantB) ps)) /\ Below w.heap.size w w' := by
 have c0 := hR.cell (j := 0) (by simp)
 simp only [List.getElem_cons_zero] at c0
 rcases ps with _ | ⟨p, ps⟩
 ·obtain ⟨o, cap, rfl⟩ := hv.empty
  clear hv hR hp
  go_enter Tryz.func146, Tryz.ntmps146
  go_wp2_with fail
  go_ret
  exact ⟨rfl, Below.refl _ _⟩
 ·obtain ⟨o, cap, rfl, hcc, hd, _⟩ := hv.cons
  have CL := hid (variant_l p w (hp p (by simp)))
  clear hv hR hp
  go_enter Tryz.func146, Tryz.ntmps146
  go_wp2_with (go_at_call 200; (with_reducible refine CL.out.mono ?_); rintro e w1 ⟨rfl, hb1⟩)
  go_ret
  exact ⟨rfl, hb1⟩
set_option maxHeartbeats 800000 in
theorem sees_region (b k : Nat) (ps : List (List UInt8)) (lv : Value) (fs : List Value) (w : World) (hv : ViewAt w k lv ps) (hR : RowAt w b (lv :: fs)) (hp : ∀ p ∈ ps, p.length <= 140737488351232) :
  Calls Tryz.prog 146 #[.pointer (some ⟨b, 0, none⟩), .func (.func 199) #[] #[]] w fun e w' => e = .returned (.bool (seesF (regionB) ps)) /\ Below w.heap.size w w' := by
 have c0 := hR.cell (j := 0) (by simp)
 simp only [List.getElem_cons_zero] at c0
 rcases ps with _ | ⟨p, ps⟩
 ·obtain ⟨o, cap, rfl⟩ := hv.empty
  clear hv hR hp
  go_enter Tryz.func146, Tryz.ntmps146
  go_wp2_with fail
  go_ret
  exact ⟨rfl, Below.refl _ _⟩
 ·obtain ⟨o, cap, rfl, hcc, hd, _⟩ := hv.cons
  have CL := hid (region_l p w (hp p (by simp)))
  clear hv hR hp
  go_enter Tryz.func146, Tryz.ntmps146
  go_wp2_with (go_at_call 199; (with_reducible refine CL.out.mono ?_); rintro e w1 ⟨rfl, hb1⟩)
  go_ret
  exact ⟨rfl, hb1⟩
set_option maxHeartbeats 800000 in
theorem sees_lang1 (b k : Nat) (ps : List (List UInt8)) (lv : Value) (fs : List Value) (w : World) (hv : ViewAt w k lv ps) (hR : RowAt w b (lv :: fs)) (hp : ∀ p ∈ ps, p.length <= 140737488351232) :
  Calls Tryz.prog 146 #[.pointer (some ⟨b, 0, none⟩), .func (.func 195) #[] #[]] w fun e w' => e = .returned (.bool (seesF (fun p => madeB p 2 8 true) ps)) /\ Below w.heap.size w w' := by
 have c0 := hR.cell (j := 0) (by simp)
 simp only [List.getElem_cons_zero] at c0
 rcases ps with _ | ⟨p, ps⟩
 ·obtain ⟨o, cap, rfl⟩ := hv.empty
  clear hv hR hp
  go_enter Tryz.func146, Tryz.ntmps146
  go_wp2_with fail
  go_ret
  exact ⟨rfl, Below.refl _ _⟩
 ·obtain ⟨o, cap, rfl, hcc, hd, _⟩ := hv.cons
  have CL := hid (lang1_l p w (hp p (by simp)))
  clear hv hR hp
  go_enter Tryz.func146, Tryz.ntmps146
  go_wp2_with (go_at_call 195; (with_reducible refine CL.out.mono ?_); rintro e w1 ⟨rfl, hb1⟩)
  go_ret
  exact ⟨rfl, hb1⟩
set_option maxHeartbeats 800000 in
theorem sees_lang2 (b k : Nat) (ps : List (List UInt8)) (lv : Value) (fs : List Value) (w : World) (hv : ViewAt w k lv ps) (hR : RowAt w b (lv :: fs)) (hp : ∀ p ∈ ps, p.length <= 140737488351232) :
  Calls Tryz.prog 146 #[.pointer (some ⟨b, 0, none⟩), .func (.func 197) #[] #[]] w fun e w' => e = .returned (.bool (seesF (fun p => madeB p 3 3 true) ps)) /\ Below w.heap.size w w' := by
 have c0 := hR.cell (j := 0) (by simp)
 simp only [List.getElem_cons_zero] at c0
 rcases ps with _ | ⟨p, ps⟩
 ·obtain ⟨o, cap, rfl⟩ := hv.empty
  clear hv hR hp
  go_enter Tryz.func146, Tryz.ntmps146
  go_wp2_with fail
  go_ret
  exact ⟨rfl, Below.refl _ _⟩
 ·obtain ⟨o, cap, rfl, hcc, hd, _⟩ := hv.cons
  have CL := hid (lang2_l p w (hp p (by simp)))
  clear hv hR hp
  go_enter Tryz.func146, Tryz.ntmps146
  go_wp2_with (go_at_call 197; (with_reducible refine CL.out.mono ?_); rintro e w1 ⟨rfl, hb1⟩)
  go_ret
  exact ⟨rfl, hb1⟩
set_option maxHeartbeats 800000 in
theorem sees_rest1 (b k : Nat) (ps : List (List UInt8)) (lv : Value) (fs : List Value) (w : World) (hv : ViewAt w k lv ps) (hR : RowAt w b (lv :: fs)) (hp : ∀ p ∈ ps, p.length <= 140737488351232) :
  Calls Tryz.prog 146 #[.pointer (some ⟨b, 0, none⟩), .func (.func 198) #[] #[]] w fun e w' => e = .returned (.bool (seesF (fun p => madeB p 4 4 true) ps)) /\ Below w.heap.size w w' := by
 have c0 := hR.cell (j := 0) (by simp)
 simp only [List.getElem_cons_zero] at c0
 rcases ps with _ | ⟨p, ps⟩
 ·obtain ⟨o, cap, rfl⟩ := hv.empty
  clear hv hR hp
  go_enter Tryz.func146, Tryz.ntmps146
  go_wp2_with fail
  go_ret
  exact ⟨rfl, Below.refl _ _⟩
 ·obtain ⟨o, cap, rfl, hcc, hd, _⟩ := hv.cons
  have CL := hid (rest1_l p w (hp p (by simp)))
  clear hv hR hp
  go_enter Tryz.func146, Tryz.ntmps146
  go_wp2_with (go_at_call 198; (with_reducible refine CL.out.mono ?_); rintro e w1 ⟨rfl, hb1⟩)
  go_ret
  exact ⟨rfl, hb1⟩
set_option maxHeartbeats 800000 in
theorem sees_rest2 (b k : Nat) (ps : List (List UInt8)) (lv : Value) (fs : List Value) (w : World) (hv : ViewAt w k lv ps) (hR : RowAt w b (lv :: fs)) (hp : ∀ p ∈ ps, p.length <= 140737488351232) :
  Calls Tryz.prog 146 #[.pointer (some ⟨b, 0, none⟩), .func (.func 202) #[] #[]] w fun e w' => e = .returned (.bool (seesF (fun p => madeB p 1 1 false && !privB p) ps)) /\ Below w.heap.size w w' := by
 have c0 := hR.cell (j := 0) (by simp)
 simp only [List.getElem_cons_zero] at c0
 rcases ps with _ | ⟨p, ps⟩
 ·obtain ⟨o, cap, rfl⟩ := hv.empty
  clear hv hR hp
  go_enter Tryz.func146, Tryz.ntmps146
  go_wp2_with fail
  go_ret
  exact ⟨rfl, Below.refl _ _⟩
 ·obtain ⟨o, cap, rfl, hcc, hd, _⟩ := hv.cons
  have CL := hid (rest2_l p w (hp p (by simp)))
  clear hv hR hp
  go_enter Tryz.func146, Tryz.ntmps146
  go_wp2_with (go_at_call 202; (with_reducible refine CL.out.mono ?_); rintro e w1 ⟨rfl, hb1⟩)
  go_ret
  exact ⟨rfl, hb1⟩
set_option maxHeartbeats 800000 in
theorem sees_tail1 (b k : Nat) (ps : List (List UInt8)) (lv : Value) (fs : List Value) (w : World) (lo c : Nat) (hlo : lo <= 1000) (hcl : w.cell? ⟨c, 0, none⟩ = some (.int .i64 (lo : Int))) (hv : ViewAt w k lv ps) (hR : RowAt w b (lv :: fs)) (hp : ∀ p ∈ ps, p.length <= 140737488351232) :
  Calls Tryz.prog 146 #[.pointer (some ⟨b, 0, none⟩), .func (.func 203) #[] #[.pointer (some ⟨c, 0, none⟩)]] w fun e w' => e = .returned (.bool (seesF (fun p => madeB p lo 8 false) ps)) /\ Below w.heap.size w w' := by
 have c0 := hR.cell (j := 0) (by simp)
 simp only [List.getElem_cons_zero] at c0
 rcases ps with _ | ⟨p, ps⟩
 ·obtain ⟨o, cap, rfl⟩ := hv.empty
  clear hv hR hp
  go_enter Tryz.func146, Tryz.ntmps146
  go_wp2_with fail
  go_ret
  exact ⟨rfl, Below.refl _ _⟩
 ·obtain ⟨o, cap, rfl, hcc, hd, _⟩ := hv.cons
  have CL := hid (tail1_l p lo c w (hp p (by simp)) hlo hcl)
  clear hv hR hp
  go_enter Tryz.func146, Tryz.ntmps146
  go_wp2_with (go_at_call 203; (with_reducible refine CL.out.mono ?_); rintro e w1 ⟨rfl, hb1⟩)
  go_ret
  exact ⟨rfl, hb1⟩
end Go.Proofs.YtdhmpakhdhdebaaGreatDoor
namespace Go.Proofs.YtdhmpakhdhdebaaGreatDoor
open Go.Lib (hid)
open Go.RowKit
set_option maxRecDepth 100000
def flatH (l : List (List UInt8)) : List UInt8 := l.flatMap fun p => 45 :: p
theorem flatH_snoc (l : List (List UInt8)) (p : List UInt8) : flatH (l ++ [p]) = flatH l ++ 45 :: p := by simp [flatH]
theorem flatH_empty (l : List (List UInt8)) : (flatH l).isEmpty = (l == []) := by cases l <;> simp [flatH]
theorem cat45' (m : List UInt8) : (⟨#[45]⟩ : ByteArray) ++ B m = B (45 :: m) := B_append [45] m
attribute [go_sem] cat45'
theorem tagTail_yes {lo : Nat} {p : List UInt8} {r : List (List UInt8)} (h : madeB p lo 8 false = true) : tagTail lo (p :: r) = (p :: (tagTail lo r).1, (tagTail lo r).2) := by rw [tagTail, if_pos h]
theorem tagTail_no {lo : Nat} {p : List UInt8} {r : List (List UInt8)} (h : madeB p lo 8 false = false) : tagTail lo (p :: r) = ([], p :: r) := by rw [tagTail, if_neg (by rw [h]; simp)]
theorem made_len {p : List UInt8} {lo hi : Nat} {pu : Bool} (h : madeB p lo hi pu = true) : lo <= p.length /\ p.length <= hi := by
 unfold madeB at h
 simp at h
 exact h.2
def cellLen (w : World) (b : Nat) : Nat := match w.cell? ⟨b, 0, none⟩ with
 | some v => lenV v
 | none => 0
theorem cellLen_of {w : World} {b : Nat} {v : Value} (h : w.cell? ⟨b, 0, none⟩ = some v) : cellLen w b = lenV v := by unfold cellLen; rw [h]
theorem ViewAt.len {w : World} {k : Nat} {v : Value} {xs : List (List UInt8)} (h : ViewAt w k v xs) : lenV v = xs.length := by
 obtain ⟨o, cap, rfl, _⟩ := h
 rfl
theorem grown_trans {w v u : World} {r : Option Nat} (h : w.grownBy v r) (h2 : v.grownBy u r) : w.grownBy u r :=
 ⟨h2.1.trans h.1, h2.2.trans h.2, h2.3.trans h.3, Nat.le_trans h.4 h2.4, fun b hb hn => (h2.5 b (Nat.lt_of_lt_of_le hb h.4) hn).trans (h.5 b hb hn)⟩
theorem below_grown {w w' : World} (h : Below w.heap.size w w') (row : Option Nat) : w.grownBy w' row := ⟨h.os, h.tape, h.output, h.size, fun k hk _ => h.block k hk⟩
set_option maxHeartbeats 3200000 in
theorem ttail_l (lo b k : Nat) (ps : List (List UInt8)) (lv : Value) (fs : List Value) (w : World) (hlo : lo <= 1000) (hv : ViewAt w k lv ps) (hR : RowAt w b (lv :: fs)) (hk : k ≠ b) (hbw : b < w.heap.size) (hp : ∀ p ∈ ps, p.length <= 140737488351232) (hn : ps.length <= 16777216) :
  Calls Tryz.prog 151 #[.pointer (some ⟨b, 0, none⟩), .int .i64 (lo : Int)] w fun e w' => e = .returned (.tuple #[.string (B (flatH (tagTail lo ps).1)), .bool (!((tagTail lo ps).1 == []))]) /\
   ∃ lv', ViewAt w' k lv' (tagTail lo ps).2 /\ RowAt w' b (lv' :: fs) /\ w.grownBy w' (some b) := by
 obtain ⟨W1, hW1⟩ : ∃ W1, w.alloc (.cells #[.int .i64 (lo : Int)] 3) = W1 := ⟨_, rfl⟩
 have hb01 : Below w.heap.size w W1 := by rw [<- hW1]; exact (Below.refl _ _).alloc (Nat.le_refl _) _
 have s1 : W1.heap.size = w.heap.size + 1 := by rw [<- hW1, World.size_alloc]
 have hcell : W1.cell? ⟨w.heap.size, 0, none⟩ = some (.int .i64 (lo : Int)) := by rw [<- hW1, World.cell?_alloc_new]; rfl
 have hv1 := hv.below hb01
 have hR1 := hR.below hb01 hbw
 have SEES := hid (sees_tail1 b k)
 have NEXT := hid (tnext_l b k)
 have HB := hid (And.intro hb01 hcell)
 obtain ⟨m, hm⟩ : ∃ m, (tagTail lo ps).1 = m := ⟨_, rfl⟩
 obtain ⟨rest, hrest⟩ : ∃ rest, (tagTail lo ps).2 = rest := ⟨_, rfl⟩
 rw [hm, hrest]
 have HT : Hid (tagTail lo ps = (m, rest)) := hid (by rw [<- hm, <- hrest])
 clear hb01 hcell hv hR hm hrest
 have HV1 := hid hv1
 have HR1 := hid hR1
 have HP := hid hp
 clear hv1 hR1 hp
 go_enter Tryz.func151, Tryz.ntmps151
 go_wp2_with fail
 go_loopw [6] (fun s wr => ∃ (taken left : List (List UInt8)) (lv : Value), s = .string (B (flatH taken)) /\ (flatH taken).length <= 9 * taken.length /\ ps.length = taken.length + left.length /\ (∀ p ∈ left, p.length <= 140737488351232) /\ Hid ((m, rest) = (taken ++ (tagTail lo left).1, (tagTail lo left).2)) /\ ViewAt wr k lv left /\ RowAt wr b (lv :: fs) /\ W1.grownBy wr (some b)) (fun _ wr => cellLen wr b)
 case atStart => exact ⟨[], ps, lv, rfl, by simp [flatH], by simp, HP.out, hid (by rw [<- HT.out]; simp), HV1.out, HR1.out, World.grownBy.refl _ _⟩
 case round =>
  obtain ⟨taken, left, lv, rfl, htl, hpl, hpp, HM, hv, hR, hg⟩ := hrel
  have hcl : wr.cell? ⟨w.heap.size, 0, none⟩ = some (.int .i64 (lo : Int)) := by
   rw [World.cell?_of_block (hg.block w.heap.size (by omega) (by simp; omega))]
   exact HB.out.2
  have S := hid (SEES.out left lv fs wr lo w.heap.size hlo hcl hv hR hpp)
  have HV := hid hv
  have HR := hid hR
  have HG := hid hg
  have HPP := hid hpp
  have hlen := hv.len
  have hc0 := hR.cell (j := 0) (by simp)
  simp only [List.getElem_cons_zero] at hc0
  have hcm := cellLen_of hc0
  rw [hlen] at hcm
  have HCM := hid hcm
  clear hv hR hg hpp hlen hc0 hcm hcl
  cases hq : seesF (fun p => madeB p lo 8 false) left with
  | false =>
   have hno : tagTail lo left = ([], left) := by
    rcases left with _ | ⟨p, left⟩
    ·rfl
    ·exact tagTail_no hq
   have HE : m = taken /\ rest = left := by have h := HM.out; rw [hno] at h; cases h; simp
   obtain ⟨rfl, rfl⟩ := HE
   rw [hq] at S
   clear HM hno hq
   go_wp2_with (go_at_call 146; (with_reducible refine S.out.mono ?_); rintro e w3 ⟨rfl, hb3⟩; have HV3 := hid (HV.out.below hb3); have HR3 := hid (HR.out.below hb3 (World.block_lt_of_cell? _ _ (HR.out.cell (j := 0) (by simp)))); have HG3 := hid (grown_trans HG.out (below_grown hb3 (some b))); clear hb3)
   go_ret2
   exact ⟨by rw [flatH_empty] <;> rfl, _, HV3.out, HR3.out, grown_trans (below_grown HB.out.1 _) HG3.out⟩
  | true =>
   rcases left with _ | ⟨p, left⟩
   ·cases hq
   have hmd : madeB p lo 8 false = true := hq
   have hpl8 := (made_len hmd).2
   rw [hq] at S
   have HM2 : Hid ((m, rest) = ((taken ++ [p]) ++ (tagTail lo left).1, (tagTail lo left).2)) := hid (by rw [HM.out, tagTail_yes hmd]; simp)
   have hcat : (flatH taken).length + (p.length + 1) <= 140737488355328 := by rw [List.length_cons] at hpl; omega
   have HFS : Hid (flatH taken ++ 45 :: p = flatH (taken ++ [p])) := hid (flatH_snoc taken p).symm
   have HL8 := hid hpl8
   clear HM hq hmd
   go_wp2_with (first | (go_at_call 146; (with_reducible refine S.out.mono ?_); rintro e w3 ⟨rfl, hb3⟩; have HV3 := hid (HV.out.below hb3); have HR3 := hid (HR.out.below hb3 (World.block_lt_of_cell? _ _ (HR.out.cell (j := 0) (by simp)))); have HG3 := hid (grown_trans HG.out (below_grown hb3 (some b))); clear hb3) | (go_at_call 150; (with_reducible refine (NEXT.out p left lv fs w3 HV3.out HR3.out hk).mono ?_); rintro e w4 ⟨rfl, lv4, hv4, hR4, hg4⟩; have HV4 := hid hv4; have HR4 := hid hR4; have HG4 := hid (grown_trans HG3.out hg4); clear hv4 hR4 hg4) | fail)
   go_roundw
   case rel => exact ⟨taken ++ [p], left, lv4, by rw [HFS.out], by have := HL8.out; rw [<- HFS.out]; simp; omega, by simp at hpl ⊢; omega, fun q hq => HPP.out q (by simp [hq]), HM2, HV4.out, HR4.out, HG4.out⟩
   case measure =>
    rw [HCM.out]
    have h4 := HR4.out.cell (j := 0) (by simp)
    simp only [List.getElem_cons_zero] at h4
    rw [cellLen_of h4, HV4.out.len]
    simp
end Go.Proofs.YtdhmpakhdhdebaaGreatDoor
namespace Go.Proofs.YtdhmpakhdhdebaaGreatDoor
open Go.Lib (hid)
open Go.RowKit
set_option maxRecDepth 100000
def LangPost (w w' : World) (e : Ending) (b k : Nat) (r5 : List Value) : Option (List UInt8 × List UInt8 × List (List UInt8)) -> Prop
 | none => e = .returned (.bool false) /\ w.grownBy w' (some b)
 | some (l, x, r) => e = .returned (.bool true) /\ ∃ lv', ViewAt w' k lv' r /\ RowAt w' b (lv' :: .string (B l) :: .string (B x) :: r5) /\ w.grownBy w' (some b)
theorem langF_no {ps : List (List UInt8)} (h : seesF (fun p => madeB p 2 8 true) ps = false) : langF ps = none := by
 rcases ps with _ | ⟨p, r⟩
 ·rfl
 ·have h' : madeB p 2 8 true = false := h
  rw [langF, if_neg (by rw [h']; simp)]
theorem langF_yes {p : List UInt8} {r : List (List UInt8)} (h : madeB p 2 8 true = true) : langF (p :: r) = if 3 < p.length then some (p, [], r) else some (p, joinD (ext3 3 r).1, (ext3 3 r).2) := by
 rw [langF, if_pos h]
theorem cat45r (m : List UInt8) : B m ++ (⟨#[45]⟩ : ByteArray) = B (m ++ [45]) := B_append m [45]
attribute [go_sem] cat45r
theorem ext3_yes {n : Nat} {p : List UInt8} {r : List (List UInt8)} (hn : 0 < n) (h : madeB p 3 3 true = true) : ext3 n (p :: r) = (p :: (ext3 (n - 1) r).1, (ext3 (n - 1) r).2) := by
 obtain ⟨m, rfl⟩ := Nat.exists_eq_succ_of_ne_zero (by omega : n ≠ 0)
 rw [ext3, if_pos h]
 rfl
theorem ext3_no {n : Nat} {ps : List (List UInt8)} (h : seesF (fun p => madeB p 3 3 true) ps = false) : ext3 n ps = ([], ps) := by
 rcases n with _ | n
 ·rfl
 ·rcases ps with _ | ⟨p, r⟩
  ·rfl
  ·have h' : madeB p 3 3 true = false := h
   rw [ext3, if_neg (by rw [h']; simp)]
theorem grownBy_set (W : World) (b o : Nat) (v : Value) : W.grownBy (W.setCell ⟨b, o, none⟩ v) (some b) :=
 ⟨rfl, rfl, rfl, by simp [World.setCell], fun k _ hk => Below.heap_setCell _ _ _ k (fun e => hk (by rw [e]))⟩
set_option maxHeartbeats 3200000 in
theorem tlang_l (b k : Nat) (ps : List (List UInt8)) (lv : Value) (r5 : List Value) (w : World) (hv : ViewAt w k lv ps) (hR : RowAt w b (lv :: .string ⟨#[]⟩ :: .string ⟨#[]⟩ :: r5)) (hk : k ≠ b) (hbw : b < w.heap.size) (hp : ∀ p ∈ ps, p.length <= 140737488351232) :
  Calls Tryz.prog 148 #[.pointer (some ⟨b, 0, none⟩)] w fun e w' => LangPost w w' e b k r5 (langF ps) := by
 have S1 := hid (sees_lang1 b k ps lv _ w hv hR hp)
 have NEXT := hid (tnext_l b k)
 have HV := hid hv
 have HR := hid hR
 have HP := hid hp
 clear hv hR hp
 cases hq : seesF (fun p => madeB p 2 8 true) ps with
 | false =>
  have HL := hid (langF_no hq)
  rw [hq] at S1
  clear hq
  go_enter Tryz.func148, Tryz.ntmps148
  go_wp2_with (go_at_call 146; (with_reducible refine S1.out.mono ?_); rintro e w3 ⟨rfl, hb3⟩)
  go_ret
  rw [HL.out]
  exact ⟨rfl, below_grown hb3 _⟩
 | true =>
  rcases ps with _ | ⟨p, ps⟩
  ·cases hq
  have hmd : madeB p 2 8 true = true := hq
  have hlF := langF_yes (r := ps) hmd
  have hp8 := (made_len hmd).2
  rw [hq] at S1
  clear hq hmd
  by_cases h3 : 3 < p.length
  ·rw [if_pos h3] at hlF
   have HL := hid hlF
   clear hlF
   go_enter Tryz.func148, Tryz.ntmps148
   go_wp2_with (first | (go_at_call 146; (with_reducible refine S1.out.mono ?_); rintro e w3 ⟨rfl, hb3⟩; have HV3 := hid (HV.out.below hb3); have HR3 := hid (HR.out.below hb3 hbw); have HG3 := hid (below_grown hb3 (some b)); clear hb3) | (go_at_call 150; (with_reducible refine (NEXT.out p ps lv _ w3 HV3.out HR3.out hk).mono ?_); rintro e w4 ⟨rfl, lv4, hv4, hR4, hg4⟩; have HV4 := hid hv4; have HR4 := hid hR4; have HG4 := hid (grown_trans HG3.out hg4); have c1 := hR4.cell (j := 1) (by simp); have f1 := hR4.free (j := 1) (by simp); simp only [List.getElem_cons_succ, List.getElem_cons_zero] at c1; clear hv4 hR4 hg4) | fail)
   go_ret
   rw [HL.out]
   exact ⟨rfl, lv4, HV4.out.grown (grownBy_set w4 b 1 _) (by simpa using hk), by have h := HR4.out.set (j := 1) (by simp) (.string (B p)); simp only [List.set_cons_succ, List.set_cons_zero] at h; exact h, grown_trans HG4.out (grownBy_set w4 b 1 _)⟩
  ·rw [if_neg h3] at hlF
   have HL := hid hlF
   have SL2 := hid (fun ps lv fs w => sees_lang2 b k ps lv fs w)
   have hpl : ∀ q ∈ ps, q.length <= 140737488351232 := fun q hq => HP.out q (by simp [hq])
   have HPL := hid hpl
   clear hlF hpl
   go_enter Tryz.func148, Tryz.ntmps148
   go_wp2_with (first | (go_at_call 146; (with_reducible refine S1.out.mono ?_); rintro e w3 ⟨rfl, hb3⟩; have HV3 := hid (HV.out.below hb3); have HR3 := hid (HR.out.below hb3 hbw); have HG3 := hid (below_grown hb3 (some b)); clear hb3) | (go_at_call 150; (with_reducible refine (NEXT.out p ps lv _ w3 HV3.out HR3.out hk).mono ?_); rintro e w4 ⟨rfl, lv4, hv4, hR4, hg4⟩; have HV4 := hid hv4; have HR4 := hid hR4; have HG4 := hid (grown_trans HG3.out hg4); have c1 := hR4.cell (j := 1) (by simp); have f1 := hR4.free (j := 1) (by simp); simp only [List.getElem_cons_succ, List.getElem_cons_zero] at c1; clear hv4 hR4 hg4) | fail)
   go_loopw [3] (fun i wr => ∃ (n : Nat) (taken left : List (List UInt8)) (lv : Value), i = .int .i64 n /\ n <= 3 /\ taken.length = n /\ (joinD taken).length <= 4 * n /\ (∀ q ∈ left, q.length <= 140737488351232) /\ Hid (ext3 3 ps = (taken ++ (ext3 (3 - n) left).1, (ext3 (3 - n) left).2)) /\ ViewAt wr k lv left /\ RowAt wr b (lv :: .string (B p) :: .string (B (joinD taken)) :: r5) /\ w.grownBy wr (some b)) (fun i _ => 3 - (intOf i).toNat)
   case atStart =>
    exact ⟨0, [], ps, lv4, rfl, by omega, rfl, by simp [joinD], HPL.out, hid (by simp), HV4.out.grown (grownBy_set w4 b 1 _) (by simpa using hk), by have h := HR4.out.set (j := 1) (by simp) (.string (B p)); simp only [List.set_cons_succ, List.set_cons_zero] at h; exact h, grown_trans HG4.out (grownBy_set w4 b 1 _)⟩
   case round =>
    obtain ⟨n, taken, left, lv, rfl, hn, htn, htl, hpp, HM, hv, hR, hg⟩ := hrel
    have HVr := hid hv
    have HRr := hid hR
    have HGr := hid hg
    have HPr := hid hpp
    have hbr : b < wr.heap.size := World.block_lt_of_cell? _ _ (hR.cell (j := 0) (by simp))
    by_cases hlt : n < 3
    ·have S2 := hid (SL2.out left lv _ wr hv hR hpp)
     clear hv hR hg hpp
     cases hq : seesF (fun p => madeB p 3 3 true) left with
     | false =>
      have HE : Hid (ext3 3 ps = (taken, left)) := hid (by rw [HM.out, ext3_no hq]; simp)
      rw [hq] at S2
      clear hq HM
      go_wp2_with (go_at_call 146; (with_reducible refine S2.out.mono ?_); rintro e w6 ⟨rfl, hb6⟩)
      go_ret
      rw [HL.out, HE.out]
      exact ⟨rfl, lv, HVr.out.below hb6, HRr.out.below hb6 hbr, grown_trans HGr.out (below_grown hb6 _)⟩
     | true =>
      rcases left with _ | ⟨q, left⟩
      ·cases hq
      have hmd : madeB q 3 3 true = true := hq
      have hql := (made_len hmd).2
      rw [hq] at S2
      have HE : Hid (ext3 3 ps = ((taken ++ [q]) ++ (ext3 (3 - (n + 1)) left).1, (ext3 (3 - (n + 1)) left).2)) := hid (by rw [HM.out, ext3_yes (by omega) hmd, show 3 - n - 1 = 3 - (n + 1) by omega]; simp)
      have NXT := hid (fun (ext : List UInt8) (u : World) (hv : ViewAt u k lv (q :: left)) (hR : RowAt u b (lv :: .string (B p) :: .string (B ext) :: r5)) => tnext_l b k q left lv (.string (B p) :: .string (B ext) :: r5) u hv hR hk)
      obtain ⟨x0, hx0⟩ : ∃ x0, joinD taken = x0 := ⟨_, rfl⟩
      rw [hx0] at HRr htl
      have SEE : Hid (∀ w6, Below wr.heap.size wr w6 -> ViewAt w6 k lv (q :: left) /\ RowAt w6 b (lv :: .string (B p) :: .string (B x0) :: r5) /\ w.grownBy w6 (some b)) := hid (fun w6 h => ⟨HVr.out.below h, HRr.out.below h hbr, grown_trans HGr.out (below_grown h _)⟩)
      clear hq HM hmd
      by_cases h0 : n = 0
      ·subst h0
       obtain rfl : taken = [] := List.eq_nil_of_length_eq_zero htn
       have hj : Hid (joinD ([] ++ [q]) = q) := hid rfl
       obtain rfl : x0 = [] := hx0.symm
       go_wp2_with (go_at_call 146; (with_reducible refine S2.out.mono ?_); rintro e w6 ⟨rfl, hb6⟩; obtain ⟨hV6, hR6, hG6⟩ := SEE.out w6 hb6; have NXA := hid (NXT.out [] w6 hV6 hR6); have NXB := hid (NXT.out [] w6.drew hV6 hR6); have e2 := hR6.cell (j := 2) (by simp); have z2 := hR6.free (j := 2) (by simp); simp only [List.getElem_cons_succ, List.getElem_cons_zero] at e2; have HG6 := hid hG6; clear hb6 hV6 hR6 hG6)
       go_region_with (go_at_call 150; first | (with_reducible refine NXA.out.mono ?_) | (with_reducible refine NXB.out.mono ?_); rintro e w7 ⟨rfl, lv7, hv7, hR7, hg7⟩; have d2 := hR7.cell (j := 2) (by simp); have g2 := hR7.free (j := 2) (by simp); simp only [List.getElem_cons_succ, List.getElem_cons_zero] at d2; have HV7 := hid hv7; have HR7 := hid hR7; have HG7 := hid hg7; clear hv7 hR7 hg7)
       all_goals go_wp2_with fail
       all_goals go_roundw
       all_goals first
        | exact ⟨0 + 1, [] ++ [q], left, lv7, by go_num, by omega, rfl, by show q.length <= _; omega, fun z hz => HPr.out z (by simp [hz]), HE, HV7.out.grown (grownBy_set w7 b 2 _) (by simpa using hk), (by have h := HR7.out.set (j := 2) (by simp) (.string (B q)); simp only [List.set_cons_succ, List.set_cons_zero] at h; exact h), grown_trans HG6.out (grown_trans ⟨HG7.out.os, HG7.out.tape, HG7.out.output, HG7.out.size, HG7.out.block⟩ (grownBy_set w7 b 2 _))⟩
        | (simp [intOf]; done)
      ·have hn0 : 0 < n := by omega
       have hne : taken ≠ [] := fun h => by rw [h] at htn; exact h0 htn.symm
       have hj : joinD (taken ++ [q]) = x0 ++ 45 :: q := by rw [joinD_snoc _ _ hne, hx0]
       have HJ := hid hj
       have hxl : x0.length <= 12 := by omega
       clear hj hne
       go_wp2_with (go_at_call 146; (with_reducible refine S2.out.mono ?_); rintro e w6 ⟨rfl, hb6⟩; obtain ⟨hV6, hR6, hG6⟩ := SEE.out w6 hb6; have hV6s := hV6.grown (grownBy_set w6 b 2 (.string (B (x0 ++ [45])))) (by simpa using hk); have hR6s := hR6.set (j := 2) (by simp) (.string (B (x0 ++ [45]))); simp only [List.set_cons_succ, List.set_cons_zero] at hR6s; have NXA := hid (NXT.out (x0 ++ [45]) _ hV6s hR6s); have NXB := hid (NXT.out (x0 ++ [45]) (w6.setCell ⟨b, 2, none⟩ (.string (B (x0 ++ [45])))).drew hV6s hR6s); have e2 := hR6.cell (j := 2) (by simp); have z2 := hR6.free (j := 2) (by simp); simp only [List.getElem_cons_succ, List.getElem_cons_zero] at e2; have HG6 := hid (grown_trans hG6 (grownBy_set w6 b 2 (.string (B (x0 ++ [45]))))); clear hb6 hV6 hR6 hG6 hV6s hR6s)
       go_region_with (go_at_call 150; first | (with_reducible refine NXA.out.mono ?_) | (with_reducible refine NXB.out.mono ?_); rintro e w7 ⟨rfl, lv7, hv7, hR7, hg7⟩; have d2 := hR7.cell (j := 2) (by simp); have g2 := hR7.free (j := 2) (by simp); simp only [List.getElem_cons_succ, List.getElem_cons_zero] at d2; have HV7 := hid hv7; have HR7 := hid hR7; have HG7 := hid hg7; clear hv7 hR7 hg7)
       all_goals go_wp2_with fail
       all_goals go_roundw
       all_goals first
        | exact ⟨n + 1, taken ++ [q], left, lv7, by go_num, by omega, by simp; omega, by rw [HJ.out]; simp; omega, fun z hz => HPr.out z (by simp [hz]), HE, HV7.out.grown (grownBy_set w7 b 2 _) (by simpa using hk), (by have h := HR7.out.set (j := 2) (by simp) (.string (B (x0 ++ 45 :: q))); simp only [List.set_cons_succ, List.set_cons_zero] at h; rw [HJ.out]; exact h), grown_trans HG6.out (grown_trans ⟨HG7.out.os, HG7.out.tape, HG7.out.output, HG7.out.size, HG7.out.block⟩ (grownBy_set w7 b 2 _))⟩
        | (simp [intOf]; omega)
    ·obtain rfl : n = 3 := by omega
     have HE : Hid (ext3 3 ps = (taken, left)) := hid (by rw [HM.out]; simp [ext3])
     clear hv hR hg hpp HM
     go_wp2_with fail
     go_ret
     rw [HL.out, HE.out]
     exact ⟨rfl, lv, HVr.out, HRr.out, HGr.out⟩
end Go.Proofs.YtdhmpakhdhdebaaGreatDoor
