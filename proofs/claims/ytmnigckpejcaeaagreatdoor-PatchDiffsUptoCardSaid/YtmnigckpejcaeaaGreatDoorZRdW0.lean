/-
  names.piece and the reference's piece: contracts. By an AI agent.
  The reference's piece: contract. By an AI agent.
  What the two pieces say of a step. No program in sight. By an AI agent.
  names.Local: contract. By an AI agent.
-/
import Derived.Test.YtmnigckpejcaeaaGreatDoorZGPlain
import Derived.Test.YtmnigckpejcaeaaGreatDoorZGSpell
import Derived.Test.YtmnigckpejcaeaaGreatDoorZEsc0
import Derived.Test.YtmnigckpejcaeaaGreatDoorZEscW
import Derived.Test.YtmnigckpejcaeaaGreatDoorZBuilder
import Derived.Laws.AppendOwn
import Derived.Test.YtmnigckpejcaeaaGreatDoorZGTag1
import Derived.Test.YtmnigckpejcaeaaGreatDoorZTagCells
import Derived.Deep.LoopGhost
import Derived.BigQuiet
namespace Go.Proofs.YtmnigckpejcaeaaGreatDoor
open Go.RowKit
set_option maxRecDepth 100000
end Go.Proofs.YtmnigckpejcaeaaGreatDoor
namespace Go.Proofs.YtmnigckpejcaeaaGreatDoor
open Go.RowKit
set_option maxRecDepth 100000
theorem wrap64_byte (b : UInt8) : wrap64 (b.toNat : Int) = (b.toNat : Int) := by have := b.toNat_lt; unfold wrap64; omega
attribute [go_sem] wrap64_byte
end Go.Proofs.YtmnigckpejcaeaaGreatDoor
namespace Go.Proofs.YtmnigckpejcaeaaGreatDoor
open Go.RowKit
set_option maxRecDepth 100000
def sayF : List UInt8 ⊕ (Nat × Int) -> List UInt8
 | .inl t => t
 | .inr _ => []
end Go.Proofs.YtmnigckpejcaeaaGreatDoor
namespace Go.Proofs.YtmnigckpejcaeaaGreatDoor
open Go.RowKit
set_option maxRecDepth 100000
def ErrIs (w : World) (v : Value) : List UInt8 ⊕ (Nat × Int) -> Prop
 | .inl _ => v = .nilIface
 | .inr (p, n) => ∃ b, v = .iface 77 (.pointer (some ⟨b, 0, none⟩)) /\ w.cell? ⟨b, 0, none⟩ = some (.int .i64 (p : Int)) /\ w.cell? ⟨b, 1, none⟩ = some (.iface 28 (.int .i64 n))
theorem ErrIs.below {w w' : World} {v : Value} {x : List UInt8 ⊕ (Nat × Int)} (h : ErrIs w v x) (hb : Below w.heap.size w w') : ErrIs w' v x := by
 rcases x with t | ⟨p, n⟩
 · exact h
 · obtain ⟨b, rfl, h1, h2⟩ := h
   exact ⟨b, rfl, by rw [hb.cell (World.block_lt_of_cell? _ _ h1)]; exact h1, by rw [hb.cell (World.block_lt_of_cell? _ _ h2)]; exact h2⟩
def LocPost (w' : World) (e : Ending) (x : List UInt8 ⊕ (Nat × Int)) : Prop := ∃ v, e = .returned (.tuple #[.string (B (sayF x)), v]) /\ ErrIs w' v x
theorem locPost_bad {x : List UInt8 ⊕ (Nat × Int)} {p : Nat} {n : Int} {w : World} (h : x = .inr (p, n)) :
   LocPost (w.alloc (.cells #[.int .i64 (p : Int), .iface 28 (.int .i64 n)] 79)) (.returned (.tuple #[.string ⟨#[]⟩, .iface 77 (.pointer (some ⟨w.heap.size, 0, none⟩))])) x := by
 subst h
 exact ⟨_, rfl, _, rfl, by rw [World.cell?_alloc_new]; rfl, by rw [World.cell?_alloc_new]; rfl⟩
end Go.Proofs.YtmnigckpejcaeaaGreatDoor
namespace Go.Proofs.YtmnigckpejcaeaaGreatDoor
open Go.RowKit
set_option maxRecDepth 100000
theorem termAtErr_l (p n : Int) (w : World) : Calls Tryz.prog 247 #[.int .i64 p, .int .i64 n] w fun e w' => e = .returned (.iface 77 (.pointer (some ⟨w.heap.size, 0, none⟩))) /\ w' = w.alloc (.cells #[.int .i64 p, .iface 28 (.int .i64 n)] 79) := by
 go_enter Tryz.func247, Tryz.ntmps247
 go_wp2
 go_ret
 exact ⟨rfl, rfl⟩
def PlaceOut (w' : World) (e : Ending) : Nat ⊕ (Nat × Int) -> Prop
 | .inl i => e = .returned (.tuple #[.int .i64 (i : Int), .nilIface])
 | .inr (p, n) => ∃ b, e = .returned (.tuple #[.int .i64 0, .iface 77 (.pointer (some ⟨b, 0, none⟩))]) /\ w'.cell? ⟨b, 0, none⟩ = some (.int .i64 (p : Int)) /\ w'.cell? ⟨b, 1, none⟩ = some (.iface 28 (.int .i64 n))
theorem placeOut_bad {x : Nat ⊕ (Nat × Int)} {p : Nat} {n : Int} {w : World} (h : x = .inr (p, n)) :
   PlaceOut (w.alloc (.cells #[.int .i64 (p : Int), .iface 28 (.int .i64 n)] 79)) (.returned (.tuple #[.int .i64 0, .iface 77 (.pointer (some ⟨w.heap.size, 0, none⟩))])) x := by
 subst h
 exact ⟨_, rfl, by rw [World.cell?_alloc_new]; rfl, by rw [World.cell?_alloc_new]; rfl⟩
theorem placeOut_ok {x : Nat ⊕ (Nat × Int)} {i : Nat} {w : World} (h : x = .inl i) : PlaceOut w (.returned (.tuple #[.int .i64 (i : Int), .nilIface])) x := by
 subst h
 rfl
theorem getD_at {l : List UInt8} {j : Nat} (h : j < l.length) : l.getD j 0 = l[j] := by simp [List.getD, h]
set_option maxHeartbeats 1600000 in
theorem closing_l (l : List UInt8) (i : Nat) (w : World) (hl : l.length <= 4611686018427387904) (hi : i < l.length) :
   Calls Tryz.prog 250 #[.string (B l), .int .i64 i] w fun e w' => PlaceOut w' e (closeF l (i + 1) false) /\ Below w.heap.size w w' := by
 have AT := Lib.hid termAtErr_l
 go_enter Tryz.func250, Tryz.ntmps250
 go_wp2_with fail
 go_loop [6, 7] (fun s k => ∃ (j : Nat) (b : Bool), s = .bool b /\ k = .int .i64 j /\ j <= l.length /\ Hid (closeF l (i + 1) false = closeF l j b)) (fun _ k => l.length - (intOf k).toNat)
 case atStart => exact ⟨i + 1, false, rfl, by go_num, hi, Lib.hid rfl⟩
 case round =>
   obtain ⟨j, b, rfl, rfl, hj, HC⟩ := hrel
   by_cases hlt : j < l.length
   · have hg := getD_at hlt
     by_cases hn : l[j] = 10 \/ l[j] = 13
     · have HE : Hid (closeF l (i + 1) false = .inr (j, 90)) := Lib.hid (by rw [HC.out, closeF_line hlt (by rw [hg]; exact hn)])
       clear hg HC
       rcases hn with hn | hn
       · have e1 : ((l[j].toNat : Int) == 10) = true := by rw [hn]; rfl
         clear hn
         go_wp2_with (go_at_call 247; refine (AT.out _ _ _).mono ?_; rintro e w4 ⟨rfl, rfl⟩)
         go_ret2
         exact ⟨placeOut_bad HE.out, (Below.refl _ _).alloc (Nat.le_refl _) _⟩
       · have e1 : ((l[j].toNat : Int) == 10) = false := by rw [hn]; rfl
         have e2 : ((l[j].toNat : Int) == 13) = true := by rw [hn]; rfl
         clear hn
         go_wp2_with (go_at_call 247; refine (AT.out _ _ _).mono ?_; rintro e w4 ⟨rfl, rfl⟩)
         go_ret2
         exact ⟨placeOut_bad HE.out, (Below.refl _ _).alloc (Nat.le_refl _) _⟩
     have e1 : ((l[j].toNat : Int) == 10) = false := byte_ne (d := 10) (fun h => hn (.inl h))
     have e2 : ((l[j].toNat : Int) == 13) = false := byte_ne (d := 13) (fun h => hn (.inr h))
     have hn2 : ¬ (l.getD j 0 = 10 \/ l.getD j 0 = 13) := by rw [hg]; exact hn
     cases b with
     | true =>
       have HE : Hid (closeF l (i + 1) false = closeF l (j + 1) false) := Lib.hid (by rw [HC.out, closeF_behind hlt hn2])
       clear hg HC hn hn2
       go_wp2_with fail
       go_round
       case rel => exact ⟨j + 1, false, rfl, by go_num, hlt, HE⟩
       case measure => simp [intOf]; omega
     | false =>
       by_cases h92 : l[j] = 92
       · have e3 : ((l[j].toNat : Int) == 92) = true := by rw [h92]; rfl
         have HE : Hid (closeF l (i + 1) false = closeF l (j + 1) true) := Lib.hid (by rw [HC.out, closeF_slash hlt (by rw [hg]; exact h92)])
         clear hg HC hn hn2 h92
         go_wp2_with fail
         go_round
         case rel => exact ⟨j + 1, true, rfl, by go_num, hlt, HE⟩
         case measure => simp [intOf]; omega
       have e3 : ((l[j].toNat : Int) == 92) = false := byte_ne (d := 92) h92
       by_cases h34 : l[j] = 34
       · have e4 : ((l[j].toNat : Int) == 34) = true := by rw [h34]; rfl
         have HE : Hid (closeF l (i + 1) false = .inl j) := Lib.hid (by rw [HC.out, closeF_quote hlt (by rw [hg]; exact h34)])
         clear hg HC hn hn2 h92 h34
         go_wp2_with fail
         go_ret2
         exact ⟨placeOut_ok HE.out, Below.refl _ _⟩
       · have e4 : ((l[j].toNat : Int) == 34) = false := byte_ne (d := 34) h34
         have HE : Hid (closeF l (i + 1) false = closeF l (j + 1) false) := Lib.hid (by rw [HC.out, closeF_go hlt hn2 (by rw [hg]; exact h92) (by rw [hg]; exact h34)])
         clear hg HC hn hn2 h92 h34
         go_wp2_with fail
         go_round
         case rel => exact ⟨j + 1, false, rfl, by go_num, hlt, HE⟩
         case measure => simp [intOf]; omega
   · obtain rfl : j = l.length := by omega
     have HE : Hid (closeF l (i + 1) false = .inr (l.length, 90)) := Lib.hid (by rw [HC.out, closeF_end (Nat.le_refl _)])
     clear HC
     go_wp2_with (go_at_call 247; refine (AT.out _ _ _).mono ?_; rintro e w4 ⟨rfl, rfl⟩)
     go_ret2
     exact ⟨placeOut_bad HE.out, (Below.refl _ _).alloc (Nat.le_refl _) _⟩
end Go.Proofs.YtmnigckpejcaeaaGreatDoor
namespace Go.Proofs.YtmnigckpejcaeaaGreatDoor
open Go.RowKit
set_option maxRecDepth 100000
theorem number_none {t : List UInt8} {k : Nat} (hk : k <= 8) (hl : t.length <= 4611686018427387904) (h : numF t k = none) (s : ByteArray) (hs : s = B t) (z : Int) (hz : z = (k : Int)) (w : World) :
   Calls Tryz.prog 265 #[.string s, .int .i64 z] w fun e w' => (∃ x, e = .returned (.tuple #[.int .i32 x, .bool false])) /\ w' = w := by
 subst hs hz
 refine (number_l t k w hk hl).mono ?_
 rintro e w' ⟨⟨x, b, rfl, hb, _⟩, rfl⟩
 rw [h] at hb
 obtain rfl : b = false := hb
 exact ⟨⟨x, rfl⟩, rfl⟩
theorem number_some {t : List UInt8} {k : Nat} {r : Int} (hk : k <= 8) (hl : t.length <= 4611686018427387904) (h : numF t k = some r) (s : ByteArray) (hs : s = B t) (z : Int) (hz : z = (k : Int)) (w : World) :
   Calls Tryz.prog 265 #[.string s, .int .i64 z] w fun e w' => e = .returned (.tuple #[.int .i32 r, .bool true]) /\ w' = w := by
 subst hs hz
 refine (number_l t k w hk hl).mono ?_
 rintro e w' ⟨⟨x, b, rfl, hb, hx⟩, rfl⟩
 rw [h] at hb
 obtain rfl : b = true := hb
 rw [hx r h]
 exact ⟨rfl, rfl⟩
theorem let_none (c : UInt8) (h : meantF c = none) : Lib.indexByte letS.data.toList ((c.toNat : Int).toNat.toUInt8) = -1 := by
 have h2 : ∀ n < 256, (meantF n.toUInt8).isNone = true -> Lib.indexByte letS.data.toList n.toUInt8 = -1 := by decide +kernel
 rw [Int.toNat_natCast]
 exact h2 c.toNat c.toNat_lt (by rw [show c.toNat.toUInt8 = c by simp, h]; rfl)
theorem meantF_some {c : UInt8} {r : Int} (h : meantF c = some r) : (c = 116 /\ r = 9) \/ (c = 98 /\ r = 8) \/ (c = 110 /\ r = 10) \/ (c = 114 /\ r = 13) \/ (c = 102 /\ r = 12) \/ (c = 34 /\ r = 34) \/ (c = 39 /\ r = 39) \/ (c = 92 /\ r = 92) := by
 unfold meantF at h
 repeat' (first | (split at h; · next e => cases h; simp [e]) | cases h)
theorem escN_short {way : Int} {t : List UInt8} (h : t.length < 2) : escN way t = (0, 0) := by
 match t, h with
 | [], _ => simp [escN]
 | [_], _ => simp [escN]
theorem escN_two {way : Int} {t : List UInt8} (h : 1 < t.length) : escN way t = if t[1] = 117 then pairN 6 (numF (t.drop 2) 4) else if t[1] = 85 then pairN 10 (numF (t.drop 2) 8) else if way = 1 then pairN 2 (meantF t[1]) else (0, 0) := by
 match t, h with
 | _ :: c :: t, _ => rw [escN]; rfl
set_option maxHeartbeats 3200000 in
theorem escape_l (way : Int) (t : List UInt8) (w : World) (hl : t.length <= 4611686018427387904) :
   Calls Tryz.prog 259 #[.string (B t), .int .i64 way] w fun e w' => e = .returned (pairV (escN way t)) /\ w' = w := by
 by_cases hs : t.length < 2
 · have HF := Lib.hid (escN_short (way := way) hs)
   go_enter Tryz.func259, Tryz.ntmps259
   go_wp2
   go_ret2
   exact ⟨by rw [HF.out]; rfl, rfl⟩
 have h1 : 1 < t.length := by omega
 have HN := Lib.hid (escN_two (way := way) h1)
 have hd : (t.drop 2).length <= 4611686018427387904 := by simp; omega
 by_cases hu : t[1] = 117
 · have c1 : (t[1].toNat : Int) = 117 := by rw [hu]; rfl
   have HF := Lib.hid (HN.out.trans (if_pos hu))
   cases hq : numF (t.drop 2) 4 with
   | none =>
     have N2 := Lib.hid (number_none (by decide) hd hq _ rfl 4 rfl)
     have HE := Lib.hid (HF.out.trans (by rw [hq]; rfl : _ = ((0 : Int), 0)))
     clear HN hu HF hq hd
     go_enter Tryz.func259, Tryz.ntmps259
     go_wp2_with (go_at_call 265; (with_reducible refine (N2.out _).mono ?_); rintro e w0 ⟨⟨x, rfl⟩, rfl⟩)
     go_ret2
     exact ⟨by rw [HE.out]; rfl, rfl⟩
   | some r =>
     have N2 := Lib.hid (number_some (by decide) hd hq _ rfl 4 rfl)
     have HE := Lib.hid (HF.out.trans (by rw [hq]; rfl : _ = (r, 6)))
     clear HN hu HF hq hd
     go_enter Tryz.func259, Tryz.ntmps259
     go_wp2_with (go_at_call 265; (with_reducible refine (N2.out _).mono ?_); rintro e w0 ⟨rfl, rfl⟩)
     go_ret2
     exact ⟨by rw [HE.out]; rfl, rfl⟩
 by_cases hv : t[1] = 85
 · have c1 : (t[1].toNat : Int) = 85 := by rw [hv]; rfl
   have HF := Lib.hid (HN.out.trans ((if_neg hu).trans (if_pos hv)))
   cases hq : numF (t.drop 2) 8 with
   | none =>
     have N2 := Lib.hid (number_none (by decide) hd hq _ rfl 8 rfl)
     have HE := Lib.hid (HF.out.trans (by rw [hq]; rfl : _ = ((0 : Int), 0)))
     clear HN hu hv HF hq hd
     go_enter Tryz.func259, Tryz.ntmps259
     go_wp2_with (go_at_call 265; (with_reducible refine (N2.out _).mono ?_); rintro e w0 ⟨⟨x, rfl⟩, rfl⟩)
     go_ret2
     exact ⟨by rw [HE.out]; rfl, rfl⟩
   | some r =>
     have N2 := Lib.hid (number_some (by decide) hd hq _ rfl 8 rfl)
     have HE := Lib.hid (HF.out.trans (by rw [hq]; rfl : _ = (r, 10)))
     clear HN hu hv HF hq hd
     go_enter Tryz.func259, Tryz.ntmps259
     go_wp2_with (go_at_call 265; (with_reducible refine (N2.out _).mono ?_); rintro e w0 ⟨rfl, rfl⟩)
     go_ret2
     exact ⟨by rw [HE.out]; rfl, rfl⟩
 have HF := Lib.hid (HN.out.trans ((if_neg hu).trans (if_neg hv)))
 have n1 : ((t[1].toNat : Int) == 117) = false := byte_ne (d := 117) hu
 have n2 : ((t[1].toNat : Int) == 85) = false := byte_ne (d := 85) hv
 clear HN hd
 by_cases hw : way = 1
 · subst hw
   cases hm : meantF t[1] with
   | none =>
     have HE := Lib.hid (HF.out.trans ((if_pos rfl).trans (by rw [hm]; rfl : _ = ((0 : Int), 0))))
     have IX := Lib.hid (ix_at letS (t[1].toNat : Int) (-1) (let_none _ hm))
     unfold letS at IX
     clear HF hu hv hm
     go_enter Tryz.func259, Tryz.ntmps259
     go_wp2_with (go_at_call 152; (with_reducible refine (IX.out _).mono ?_); rintro e w0 ⟨rfl, rfl⟩)
     go_ret2
     exact ⟨by rw [HE.out]; rfl, rfl⟩
   | some r =>
     have HE := Lib.hid (HF.out.trans ((if_pos rfl).trans (by rw [hm]; rfl : _ = (r, 2))))
     have hc := meantF_some hm
     clear HF hu hv hm n1 n2
     rcases hc with ⟨hc, rfl⟩ | ⟨hc, rfl⟩ | ⟨hc, rfl⟩ | ⟨hc, rfl⟩ | ⟨hc, rfl⟩ | ⟨hc, rfl⟩ | ⟨hc, rfl⟩ | ⟨hc, rfl⟩
     · have c1 : (t[1].toNat : Int) = 116 := by rw [hc]; rfl
       have IX := Lib.hid (ix_at letS 116 0 (by decide))
       unfold letS at IX
       clear hc
       go_enter Tryz.func259, Tryz.ntmps259
       go_wp2_with (go_at_call 152; (with_reducible refine (IX.out _).mono ?_); rintro e w0 ⟨rfl, rfl⟩)
       go_ret2
       exact ⟨by rw [HE.out]; exact congrArg (fun z => Ending.returned (.tuple #[.int .i32 z, .int .i64 2])) (by decide +kernel), rfl⟩
     · have c1 : (t[1].toNat : Int) = 98 := by rw [hc]; rfl
       have IX := Lib.hid (ix_at letS 98 1 (by decide))
       unfold letS at IX
       clear hc
       go_enter Tryz.func259, Tryz.ntmps259
       go_wp2_with (go_at_call 152; (with_reducible refine (IX.out _).mono ?_); rintro e w0 ⟨rfl, rfl⟩)
       go_ret2
       exact ⟨by rw [HE.out]; exact congrArg (fun z => Ending.returned (.tuple #[.int .i32 z, .int .i64 2])) (by decide +kernel), rfl⟩
     · have c1 : (t[1].toNat : Int) = 110 := by rw [hc]; rfl
       have IX := Lib.hid (ix_at letS 110 2 (by decide))
       unfold letS at IX
       clear hc
       go_enter Tryz.func259, Tryz.ntmps259
       go_wp2_with (go_at_call 152; (with_reducible refine (IX.out _).mono ?_); rintro e w0 ⟨rfl, rfl⟩)
       go_ret2
       exact ⟨by rw [HE.out]; exact congrArg (fun z => Ending.returned (.tuple #[.int .i32 z, .int .i64 2])) (by decide +kernel), rfl⟩
     · have c1 : (t[1].toNat : Int) = 114 := by rw [hc]; rfl
       have IX := Lib.hid (ix_at letS 114 3 (by decide))
       unfold letS at IX
       clear hc
       go_enter Tryz.func259, Tryz.ntmps259
       go_wp2_with (go_at_call 152; (with_reducible refine (IX.out _).mono ?_); rintro e w0 ⟨rfl, rfl⟩)
       go_ret2
       exact ⟨by rw [HE.out]; exact congrArg (fun z => Ending.returned (.tuple #[.int .i32 z, .int .i64 2])) (by decide +kernel), rfl⟩
     · have c1 : (t[1].toNat : Int) = 102 := by rw [hc]; rfl
       have IX := Lib.hid (ix_at letS 102 4 (by decide))
       unfold letS at IX
       clear hc
       go_enter Tryz.func259, Tryz.ntmps259
       go_wp2_with (go_at_call 152; (with_reducible refine (IX.out _).mono ?_); rintro e w0 ⟨rfl, rfl⟩)
       go_ret2
       exact ⟨by rw [HE.out]; exact congrArg (fun z => Ending.returned (.tuple #[.int .i32 z, .int .i64 2])) (by decide +kernel), rfl⟩
     · have c1 : (t[1].toNat : Int) = 34 := by rw [hc]; rfl
       have IX := Lib.hid (ix_at letS 34 5 (by decide))
       unfold letS at IX
       clear hc
       go_enter Tryz.func259, Tryz.ntmps259
       go_wp2_with (go_at_call 152; (with_reducible refine (IX.out _).mono ?_); rintro e w0 ⟨rfl, rfl⟩)
       go_ret2
       exact ⟨by rw [HE.out]; exact congrArg (fun z => Ending.returned (.tuple #[.int .i32 z, .int .i64 2])) (by decide +kernel), rfl⟩
     · have c1 : (t[1].toNat : Int) = 39 := by rw [hc]; rfl
       have IX := Lib.hid (ix_at letS 39 6 (by decide))
       unfold letS at IX
       clear hc
       go_enter Tryz.func259, Tryz.ntmps259
       go_wp2_with (go_at_call 152; (with_reducible refine (IX.out _).mono ?_); rintro e w0 ⟨rfl, rfl⟩)
       go_ret2
       exact ⟨by rw [HE.out]; exact congrArg (fun z => Ending.returned (.tuple #[.int .i32 z, .int .i64 2])) (by decide +kernel), rfl⟩
     · have c1 : (t[1].toNat : Int) = 92 := by rw [hc]; rfl
       have IX := Lib.hid (ix_at letS 92 7 (by decide))
       unfold letS at IX
       clear hc
       go_enter Tryz.func259, Tryz.ntmps259
       go_wp2_with (go_at_call 152; (with_reducible refine (IX.out _).mono ?_); rintro e w0 ⟨rfl, rfl⟩)
       go_ret2
       exact ⟨by rw [HE.out]; exact congrArg (fun z => Ending.returned (.tuple #[.int .i32 z, .int .i64 2])) (by decide +kernel), rfl⟩
 · have HE := Lib.hid (HF.out.trans (if_neg hw))
   have ew : (way == 1) = false := beq_eq_false_iff_ne.2 hw
   obtain ⟨k, hk⟩ : ∃ k, Lib.indexByte letS.data.toList ((t[1].toNat : Int).toNat.toUInt8) = k := ⟨_, rfl⟩
   have IX := Lib.hid (ix_at letS (t[1].toNat : Int) k hk)
   unfold letS at IX
   clear HF hu hv hw hk
   by_cases hk : 0 <= k
   · go_enter Tryz.func259, Tryz.ntmps259
     go_wp2_with (go_at_call 152; (with_reducible refine (IX.out _).mono ?_); rintro e w0 ⟨rfl, rfl⟩)
     go_ret2
     exact ⟨by rw [HE.out]; rfl, rfl⟩
   · go_enter Tryz.func259, Tryz.ntmps259
     go_wp2_with (go_at_call 152; (with_reducible refine (IX.out _).mono ?_); rintro e w0 ⟨rfl, rfl⟩)
     go_ret2
     exact ⟨by rw [HE.out]; rfl, rfl⟩
end Go.Proofs.YtmnigckpejcaeaaGreatDoor
namespace Go.Proofs.YtmnigckpejcaeaaGreatDoor
open Go.RowKit
set_option maxRecDepth 100000
theorem utfWrong_l (p n : Int) (w : World) : Calls Tryz.prog 139 #[.int .i64 p, .int .i64 n] w fun e w' => e = .returned (.iface 77 (.pointer (some ⟨w.heap.size, 0, none⟩))) /\ w' = w.alloc (.cells #[.int .i64 p, .iface 28 (.int .i64 n)] 79) := by
 go_enter Tryz.func139, Tryz.ntmps139
 go_wp2
 go_ret
 exact ⟨rfl, rfl⟩
theorem utfF_or (l : List UInt8) : ∀ (k j : Nat), l.length - j <= k -> utfF l j = -1 \/ 0 <= utfF l j
 | k, j, hk => by
   by_cases h : l.length <= j
   · exact .inl (utfF_end h)
   obtain ⟨v, n, hq⟩ : ∃ v n, nextAt l (j : Int) = (v, n) := ⟨_, _, rfl⟩
   by_cases hn : n = 0
   · rw [utfF_bad (by omega) (hn ▸ hq)]; omega
   · rw [utfF_go (by omega) hq hn]
     match k, hk with
     | 0, hk => omega
     | k + 1, hk => exact utfF_or l k (j + n) (by omega)
end Go.Proofs.YtmnigckpejcaeaaGreatDoor
namespace Go.Proofs.YtmnigckpejcaeaaGreatDoor
open Go.RowKit
set_option maxRecDepth 100000
theorem copyCheckC_any (B_ b : Nat) (bs : List Value) (w : World) (h : Lib.IsBuilder 129 5 B_ b bs w) :
   Calls Tryz.prog 107 #[.pointer (some ⟨b, 0, none⟩)] w fun e w' => e = .returned (.tuple #[]) /\ Lib.BuilderAt 129 5 B_ b (.pointer (some ⟨b, 0, none⟩)) bs w' /\ Below B_ w w' /\ Lib.OthersKept 5 (some b) w w' /\ ∀ p : Addr, p.block ≠ b -> w'.cell? p = w.cell? p := by
 rcases h with h | h
 · refine (copyCheck_fresh b w h.cell0 h.shape h.frozen0).mono ?_
   rintro e w' ⟨he, rfl⟩
   exact ⟨he, h.used _, (Below.refl _ _).setCell h.1 _, Lib.OthersKept.setCell (b := b) (Lib.OthersKept.refl _ _ _) ⟨b, 0, none⟩ rfl _, fun p hp => World.cell?_setCell_other _ _ _ _ (fun e => hp (by rw [<- e]))⟩
 · refine (copyCheck_used b w h.cell0).mono ?_
   rintro e w' ⟨he, rfl⟩
   exact ⟨he, h, Below.refl _ _, Lib.OthersKept.refl _ _ _, fun _ _ => rfl⟩
theorem at_of {w w1 : World} {g o : Nat} {xs : List Value} (h : At w (some ⟨g, o, none⟩) xs) (hk : ∀ p : Addr, p.block = g -> w1.cell? p = w.cell? p) : At w1 (some ⟨g, o, none⟩) xs := fun j hj =>
 ⟨g, o, rfl, (hk ⟨g, o + j, none⟩ rfl).trans (h.get hj)⟩
theorem news_at {w : World} {g o : Nat} {xs : List Value} (h : At w (some ⟨g, o, none⟩) xs) : ∀ j u, xs[j]? = some u -> w.cell? ((⟨g, o, none⟩ : Addr).add j) = some u := by
 intro j u hu
 obtain ⟨hj, rfl⟩ := List.getElem?_eq_some_iff.1 hu
 rw [addO]
 exact h.get hj
theorem one_u8 (m : List UInt8) : ∀ u ∈ m.map U8, u.oneCell' = true := by
 intro u hu
 obtain ⟨c, _, rfl⟩ := List.mem_map.1 hu
 rfl
set_option maxHeartbeats 800000 in
theorem writeBytes_l (B_ b g o c : Nat) (l m : List UInt8) (w : World) (h : BuildsB w B_ b l) (ha : At w (some ⟨g, o, none⟩) (m.map U8)) (hg : g ≠ b) (hlen : l.length + m.length <= 140737488355328) (hBw : B_ <= w.heap.size) :
   Calls Tryz.prog 260 #[.pointer (some ⟨b, 0, none⟩), .slice (some ⟨g, o, none⟩) m.length c] w fun e w' => e = .returned (.tuple #[.int .i64 m.length, .nilIface]) /\ BuildsB w' B_ b (l ++ m) /\ Below B_ w w' /\ Lib.OthersKept 5 (some b) w w' := by
 obtain ⟨i0, hi, hz0, hz1, hz2⟩ := info_parts infoByte
 have CC := Lib.hid (copyCheckC_any B_ b (l.map U8) w h)
 clear h
 go_enter Tryz.func260, Tryz.ntmps260
 go_wp2_with (first | (go_at_call 107; refine CC.out.mono ?_; rintro e w1 ⟨rfl, ⟨hB, v, hbk, hown, hne⟩, hb1, hk1, hcc⟩; have HA1 := Lib.hid (at_of ha (fun p hp => hcc p (by rw [hp]; exact hg))); clear hcc; have c1 : w1.cell? ⟨b, 1, none⟩ = some v := (Lib.cell_of_heap hbk 1).trans rfl; have HBK := Lib.hid hbk; have HNE := Lib.hid hne; clear hbk hne) | (at_builtin; refine wpList_append_own _ rfl (.tmp 12) (.tmp 13) 27 rfl B_ 5 i0 (.int .u8 0) 1 1 Tryz.underlying27 hi hz0 hz1 hz2 rfl (by decide) _ _ _ rfl hown ⟨g, o, none⟩ m.length c (m.map U8) rfl (by simp) (news_at HA1.out) (one_u8 m) ?c3 ?c4 ?c5 ?_))
 case c3 => simp; unfold maxLen; omega
 case c4 => simp; omega
 case c5 => have := hb1.size; omega
 intro v' w2 hown' hgrow _
 have hlt : b < w1.heap.size := World.block_lt_of_cell? _ _ c1
 have hb2 : w2.heap[b]? = some (.cells #[.pointer (some ⟨b, 0, none⟩), v] 129 (0, 0)) := by
   rw [hgrow.block b hlt (fun e => HNE.out e.symm)]
   exact HBK.out
 have d1 : w2.cell? ⟨b, 1, none⟩ = some v := (Lib.cell_of_heap hb2 1).trans rfl
 have f1 : w2.frozen? ⟨b, 1, none⟩ = false := Lib.frozen_of_heap hb2 1
 have hput : ∀ x, w2.ownsRow B_ 5 1 x ((l ++ m).map U8).length ((l ++ m).map U8) -> Lib.BuilderAt 129 5 B_ b (.pointer (some ⟨b, 0, none⟩)) ((l ++ m).map U8) (w2.setCell ⟨b, 1, none⟩ x) := fun x hx => Lib.BuilderAt.put hB hb2 hx (by decide)
 have hown2 : w2.ownsRow B_ 5 1 v' ((l ++ m).map U8).length ((l ++ m).map U8) := by
   simpa using hown'
 have HP := Lib.hid (hput v' hown2)
 have hbw : Below B_ w (w2.setCell ⟨b, 1, none⟩ v') := (hb1.grown hgrow (by have := hb1.size; omega) (fun k hk => (hown.lt k hk).1)).setCell (p := ⟨b, 1, none⟩) hB _
 have HBW := Lib.hid hbw
 have HKK : Hid (Lib.OthersKept 5 (some b) w (w2.setCell ⟨b, 1, none⟩ v')) := Lib.hid ((hk1.grown hgrow (ownsRow_kind hown)).setCell _ rfl _)
 obtain ⟨ao, n', cap, hv'⟩ : ∃ ao n' cap, v' = .slice ao n' cap := by
   rcases hown2.2 with ⟨hv, _⟩ | ⟨g, cap, cur, hv, _⟩
   · exact ⟨_, _, _, hv⟩
   · exact ⟨_, _, _, hv⟩
 clear hk1 hown hown' hown2 hput hb2 hbw hgrow HBK HNE c1
 rw [hv'] at HP HBW HKK ⊢
 clear hv'
 go_wp2_with fail
 go_ret2
 exact ⟨rfl, .inr HP.out, HBW.out, HKK.out⟩
end Go.Proofs.YtmnigckpejcaeaaGreatDoor
namespace Go.Proofs.YtmnigckpejcaeaaGreatDoor
open Go.RowKit
set_option maxRecDepth 100000
theorem atF_esc {way : Int} {l : List UInt8} {j : Nat} (h : j < l.length) (hc : l[j] = 92) : atF way l j = (escN way (l.drop j), 41) := by
 unfold atF
 rw [show l.getD j 0 = l[j] by simp [List.getD, h], if_pos hc]
theorem atF_plain {way : Int} {l : List UInt8} {j : Nat} (h : j < l.length) (hc : l[j] ≠ 92) : atF way l j = (nextAt l j, 40) := by
 unfold atF
 rw [show l.getD j 0 = l[j] by simp [List.getD, h], if_neg hc]
theorem BuildsB.lt {w : World} {B_ b : Nat} {l : List UInt8} (h : BuildsB w B_ b l) : b < w.heap.size := h.elim (fun x => x.lt) (fun x => x.lt)
set_option maxHeartbeats 3200000 in
theorem unescape_l (way : Int) (l : List UInt8) (w : World) (hl : l.length <= 16777216) :
   Calls Tryz.prog 248 #[.string (B l), .int .i64 way] w fun e w' => LocPost w' e (unescF way l 0) /\ Below w.heap.size w w' := by
 have NX := Lib.hid (fun (j : Nat) (hj : j < l.length) (v : Int) (n : Nat) (h : nextAt l j = (v, n)) (u : World) => h ▸ next_l l j u (by omega) (by omega))
 have ES := Lib.hid (fun (j : Nat) (v : Int) (n : Nat) (h : escN way (l.drop j) = (v, n)) (u : World) => h ▸ escape_l way (l.drop j) u (by simp; omega))
 have BY := Lib.hid (fun (v : Int) (h0 : 0 <= v) (h1 : v <= 1114111) (u : World) => utfBytes_l v u h0 h1)
 have WS := Lib.hid writeString_l
 have WB := Lib.hid writeBytes_l
 have ST := Lib.hid builderString_l
 have WRO := Lib.hid utfWrong_l
 go_enter Tryz.func248, Tryz.ntmps248
 go_wp2_with fail
 go_loopw [7] (fun i wr => ∃ (j : Nat) (acc : List UInt8), i = .int .i64 j /\ j <= l.length /\ acc.length <= 4 * j /\ Hid (unescF way l 0 = putF acc (unescF way l j)) /\ Hid (BuildsB wr w.heap.size w.heap.size acc) /\ Hid (Below w.heap.size w wr)) (fun i _ => l.length - (intOf i).toNat)
 case atStart => exact ⟨0, [], rfl, Nat.zero_le _, Nat.le_refl _, Lib.hid (putF_nil _).symm, Lib.hid (Lib.fresh_isBuilder _ _ _), Lib.hid ((Below.refl _ _).alloc (Nat.le_refl _) _)⟩
 case round =>
   obtain ⟨j, acc, rfl, hj, hacc, HS, HB, HW⟩ := hrel
   by_cases hlt : j < l.length
   · by_cases hc : l[j] = 92
     · have c0 : ((l[j].toNat : Int) == 92) = true := by rw [hc]; rfl
       obtain ⟨v, n, hq⟩ : ∃ v n, escN way (l.drop j) = (v, n) := ⟨_, _, rfl⟩
       have hat : atF way l j = ((v, n), 41) := by rw [atF_esc hlt hc, hq]
       have N2 := Lib.hid (ES.out j v n hq)
       by_cases hn : n = 0
       · have HE : Hid (unescF way l 0 = .inr (j, 41)) := Lib.hid (by rw [HS.out, unescF_bad hlt (hn ▸ hat)]; rfl)
         have e0 : ((n : Int) == 0) = true := by rw [hn]; rfl
         clear hc hq hat hn HS
         go_wp2_with (first | (go_at_call 259; (with_reducible refine (N2.out _).mono ?_); rintro e w1 ⟨rfl, rfl⟩; unfold pairV) | (go_at_call 139; refine (WRO.out _ _ _).mono ?_; rintro e w4 ⟨rfl, rfl⟩))
         go_ret2
         exact ⟨locPost_bad HE.out, HW.out.alloc HW.out.size _⟩
       · have e0 : ((n : Int) == 0) = false := beq_eq_false_iff_ne.2 (by omega)
         have hbd := escN_bound hq hn
         have hv := scal_nonneg hbd.2
         have hjn : j + n <= l.length := by have := hbd.1; simp at this; omega
         have HE : Hid (unescF way l 0 = putF (acc ++ byU v) (unescF way l (j + n))) := Lib.hid (by rw [HS.out, unescF_go hlt hat hn, putF_put])
         have B2 := Lib.hid (fun u => BY.out v hv.1 hv.2.1 u)
         have hb4 := byU_len v
         have h0n : 0 < n := by omega
         have hlx : acc.length + (byU v).length <= 140737488355328 := by omega
         have HL : Hid (acc.length + (byU v).length <= 4 * (j + n)) := Lib.hid (by omega)
         clear hc hq hat hn HS hbd hv hb4 BY
         go_wp2_with (first
           | (go_at_call 259; (with_reducible refine (N2.out _).mono ?_); rintro e w1 ⟨rfl, rfl⟩; unfold pairV)
           | (go_at_call 184; (with_reducible refine (B2.out _).mono ?_); rintro e w2 ⟨cp, rfl, ha, hb2⟩; have HA := Lib.hid (bytesU_cells v ▸ ha); have HB2 := Lib.hid (HB.out.below hb2); have HW2 := Lib.hid (HW.out.trans (hb2.mono HW.out.size)); have HNE := Lib.hid (Nat.ne_of_gt HB.out.lt); rw [<- bytesU_length]; clear ha hb2)
           | (go_at_call 260; (refine (WB.out _ _ _ _ _ acc (byU v) _ HB2.out HA.out HNE.out ?c1 HW2.out.size).mono ?_); rotate_left; rintro e w4 ⟨rfl, h1, h2, h3⟩; have HB4 := Lib.hid h1; have HW4 := Lib.hid (HW2.out.trans h2); clear h1 h2 h3))
         case c1 => exact hlx
         go_roundw
         case rel => exact ⟨j + n, acc ++ byU v, by go_num, hjn, by have := HL.out; simp; omega, HE, HB4, HW4⟩
         case measure => simp [intOf]; omega
     · have c0 : ((l[j].toNat : Int) == 92) = false := byte_ne (d := 92) hc
       obtain ⟨v, n, hq⟩ : ∃ v n, nextAt l (j : Int) = (v, n) := ⟨_, _, rfl⟩
       have hat : atF way l j = ((v, n), 40) := by rw [atF_plain hlt hc, hq]
       have N2 := Lib.hid (NX.out j hlt v n hq)
       by_cases hn : n = 0
       · have HE : Hid (unescF way l 0 = .inr (j, 40)) := Lib.hid (by rw [HS.out, unescF_bad hlt (hn ▸ hat)]; rfl)
         have e0 : ((n : Int) == 0) = true := by rw [hn]; rfl
         clear hc hq hat hn HS
         go_wp2_with (first | (go_at_call 175; (with_reducible refine (N2.out _).mono ?_); rintro e w1 ⟨rfl, rfl⟩; unfold pairV) | (go_at_call 139; refine (WRO.out _ _ _).mono ?_; rintro e w4 ⟨rfl, rfl⟩))
         go_ret2
         exact ⟨locPost_bad HE.out, HW.out.alloc HW.out.size _⟩
       · have e0 : ((n : Int) == 0) = false := beq_eq_false_iff_ne.2 (by omega)
         have hbd := nextAt_bound hq hn
         have hjn : j + n <= l.length := by omega
         have hby := (nextAt_bytes hq hn).1
         have hsub : j + n - j = n := by omega
         have HE : Hid (unescF way l 0 = putF (acc ++ (l.drop j).take n) (unescF way l (j + n))) := Lib.hid (by rw [HS.out, unescF_go hlt hat hn, putF_put, hby])
         have h0n : 0 < n := by omega
         have hb4 : ((l.drop j).take n).length <= 4 := hby ▸ byU_len v
         obtain ⟨x, hx⟩ : ∃ x, (l.drop j).take n = x := ⟨_, rfl⟩
         rw [hx] at HE hb4
         have hlx : acc.length + x.length <= 140737488355328 := by omega
         have HL : Hid (acc.length + x.length <= 4 * (j + n)) := Lib.hid (by omega)
         clear hc hq hat hn HS hbd hby hb4
         go_wp2_with (first
           | (go_at_call 175; (with_reducible refine (N2.out _).mono ?_); rintro e w1 ⟨rfl, rfl⟩; unfold pairV)
           | (go_at_call 73; (refine (WS.out _ _ acc x _ HB.out ?c1 HW.out.size).mono ?_); rotate_left; rintro e w4 ⟨rfl, h1, h2⟩; have HB4 := Lib.hid h1; have HW4 := Lib.hid (HW.out.trans h2); clear h1 h2))
         case c1 => exact hlx
         go_roundw
         case rel => exact ⟨j + n, acc ++ x, by go_num, hjn, by have := HL.out; simp; omega, HE, HB4, HW4⟩
         case measure => simp [intOf]; omega
   · obtain rfl : j = l.length := by omega
     have HE : Hid (unescF way l 0 = .inl acc) := Lib.hid (by rw [HS.out, unescF_end (Nat.le_refl _)]; simp [putF])
     clear HS
     go_wp2_with (go_at_call 74; refine (ST.out _ _ acc _ HB.out HW.out.size).mono ?_; rintro e w4 ⟨rfl, hb4⟩; have HW4 := Lib.hid (HW.out.trans hb4); clear hb4)
     go_ret2
     exact ⟨⟨_, by rw [HE.out]; rfl, by rw [HE.out]; rfl⟩, HW4.out⟩
end Go.Proofs.YtmnigckpejcaeaaGreatDoor
namespace Go.Proofs.YtmnigckpejcaeaaGreatDoor
open Go.RowKit
set_option maxRecDepth 100000
structure RdAt (w : World) (b : Nat) (l : List UInt8) (i : Nat) : Prop where
 s : w.cell? ⟨b, 0, none⟩ = some (.string (B l))
 a : w.cell? ⟨b, 1, none⟩ = some (.int .i64 (i : Int))
 f : w.frozen? ⟨b, 1, none⟩ = false
theorem RdAt.lt {w : World} {b i : Nat} {l : List UInt8} (h : RdAt w b l i) : b < w.heap.size := World.block_lt_of_cell? _ _ h.s
theorem RdAt.below {w w' : World} {b i : Nat} {l : List UInt8} (h : RdAt w b l i) (hb : Below w.heap.size w w') : RdAt w' b l i :=
 ⟨(hb.cell (p := ⟨b, 0, none⟩) h.lt).trans h.s, (hb.cell (p := ⟨b, 1, none⟩) h.lt).trans h.a, (hb.frozen (p := ⟨b, 1, none⟩) h.lt).trans h.f⟩
theorem RdAt.drewN {w : World} {b i : Nat} {l : List UInt8} (h : RdAt w b l i) (n : Nat) : RdAt (w.drewN n) b l i := ⟨h.s, h.a, h.f⟩
theorem RdAt.set {w : World} {b i : Nat} {l : List UInt8} (h : RdAt w b l i) (j : Nat) : RdAt (w.setCell ⟨b, 1, none⟩ (.int .i64 (j : Int))) b l j :=
 ⟨by rw [World.cell?_setCell_other _ _ _ _ (by simp)]; exact h.s, World.cell?_setCell_same _ _ _ h.a, by rw [World.frozen?_setCell]; exact h.f⟩
def atOf (w : World) (b : Nat) : Nat := match w.cell? ⟨b, 1, none⟩ with
 | some (.int _ i) => i.toNat
 | _ => 0
theorem RdAt.at {w : World} {b i : Nat} {l : List UInt8} (h : RdAt w b l i) : atOf w b = i := by unfold atOf; rw [h.a]; simp
theorem grown_drewN {w w' : World} {row : Option Nat} (h : w.grownBy w' row) (n : Nat) : w.grownBy (w'.drewN n) row := ⟨h.os, h.tape, h.output, h.size, h.block⟩
theorem grownR_trans {w v u : World} {r : Option Nat} (h : w.grownBy v r) (h2 : v.grownBy u r) : w.grownBy u r :=
 ⟨h2.1.trans h.1, h2.2.trans h.2, h2.3.trans h.3, Nat.le_trans h.4 h2.4, fun b hb hn => (h2.5 b (Nat.lt_of_lt_of_le hb h.4) hn).trans (h.5 b hb hn)⟩
theorem grownBy_setCell1 (w : World) (b o : Nat) (v : Value) : w.grownBy (w.setCell ⟨b, o, none⟩ v) (some b) := by
 refine ⟨rfl, rfl, rfl, by simp, fun k hk hn => ?_⟩
 exact RowKit.Below.heap_setCell _ _ _ _ (fun e => hn (by rw [e]))
set_option maxHeartbeats 1600000 in
theorem rdBlanks_l (l : List UInt8) (b i : Nat) (w : World) (hr : RdAt w b l i) (hi : i <= l.length) (hl : l.length <= 4611686018427387904) :
   Calls Tryz.prog 117 #[.pointer (some ⟨b, 0, none⟩)] w fun e w' => e = .returned (.tuple #[]) /\ RdAt w' b l (blkF l i) /\ w.grownBy w' (some b) := by
 have HR := Lib.hid hr
 clear hr
 go_enter Tryz.func117, Tryz.ntmps117
 go_wp2_with fail
 go_loopw [2] (fun _ wr => ∃ j : Nat, j <= l.length /\ Hid (blkF l i = blkF l j) /\ RdAt wr b l j /\ w.grownBy wr (some b)) (fun _ wr => l.length - atOf wr b)
 case atStart => exact ⟨i, hi, Lib.hid rfl, HR.out, World.grownBy.refl _ _⟩
 case round =>
   obtain ⟨j, hj, HS, hr, hg⟩ := hrel
   have HAT := Lib.hid hr.at
   obtain ⟨c0, c1, f1⟩ := hr
   have HG := Lib.hid hg
   have HRD := Lib.hid (RdAt.mk c0 c1 f1)
   have RDN : Hid (∀ n, RdAt ((wr.drewN n).setCell ⟨b, 1, none⟩ (.int .i64 ((j : Int) + 1))) b l (j + 1)) := Lib.hid (fun n => by have := (HRD.out.drewN n).set (j + 1); simpa using this)
   have GN : Hid (∀ n, w.grownBy ((wr.drewN n).setCell ⟨b, 1, none⟩ (.int .i64 ((j : Int) + 1))) (some b)) := Lib.hid (fun n => grownR_trans (grown_drewN hg n) (grownBy_setCell1 _ b 1 _))
   have hlt' := World.block_lt_of_cell? _ _ c0
   clear hg
   by_cases hlt : j < l.length
   · have e1 : decide (j < l.length) = true := decide_eq_true hlt
     have e1' : decide ((j : Int) < (l.length : Int)) = true := decide_eq_true (by omega)
     have j0 : 0 <= (j : Int) := by omega
     have j1 : (j : Int) < (l.length : Int) := by omega
     by_cases h32 : l[j] = 32
     · have e2 : ((l[j].toNat : Int) == 32) = true := byte_eq (d := 32) h32
       have HE : Hid (blkF l i = blkF l (j + 1)) := Lib.hid (by rw [HS.out, blkF_go hlt (by simp [List.getD, hlt, h32])])
       clear h32 HS
       go_wp2_with fail
       go_quiet (fail)
       go_wp2_with fail
       go_roundw
       case rel => exact ⟨j + 1, hlt, HE, RDN.out _, GN.out _⟩
       case measure => rw [(RDN.out _).at, HAT.out]; omega
     · have e2 : ((l[j].toNat : Int) == 32) = false := byte_ne (d := 32) h32
       by_cases h9 : l[j] = 9
       · have e3 : ((l[j].toNat : Int) == 9) = true := byte_eq (d := 9) h9
         have HE : Hid (blkF l i = blkF l (j + 1)) := Lib.hid (by rw [HS.out, blkF_go hlt (by simp [List.getD, hlt, h9])])
         clear h32 h9 HS
         go_wp2_with fail
         go_quiet (fail)
         go_wp2_with fail
         go_roundw
         case rel => exact ⟨j + 1, hlt, HE, RDN.out _, GN.out _⟩
         case measure => rw [(RDN.out _).at, HAT.out]; omega
       · have e3 : ((l[j].toNat : Int) == 9) = false := byte_ne (d := 9) h9
         have HE : Hid (blkF l i = j) := Lib.hid (by rw [HS.out, blkF_stop hlt (by simp [List.getD, hlt, h9, h32])])
         clear h32 h9 HS
         go_wp2_with fail
         go_quiet (fail)
         go_wp2_with fail
         go_end0
         rw [HE.out]
         exact ⟨rfl, HRD.out.drewN _, grown_drewN HG.out _⟩
   · obtain rfl : j = l.length := by omega
     have e1 : decide (l.length < l.length) = false := decide_eq_false (by omega)
     have e1' : decide ((l.length : Int) < (l.length : Int)) = false := decide_eq_false (by omega)
     have HE : Hid (blkF l i = l.length) := Lib.hid (by rw [HS.out, blkF_end (Nat.le_refl _)])
     clear HS
     go_wp2_with fail
     go_quiet (fail)
     go_wp2_with fail
     go_end0
     rw [HE.out]
     exact ⟨rfl, HRD.out.drewN _, grown_drewN HG.out _⟩
end Go.Proofs.YtmnigckpejcaeaaGreatDoor
