/-
  names.piece and the reference's piece: contracts. By an AI agent.
  The reference's piece: contract. By an AI agent.
  What the two pieces say of a step. No program in sight. By an AI agent.
  names.Local: contract. By an AI agent.
-/
import Derived.Test.YtdhmpakhdhdebaaGreatDoorZEscW4
import Derived.Test.YtdhmpakhdhdebaaGreatDoorZTagCells
namespace Go.Proofs.YtdhmpakhdhdebaaGreatDoor
open Go.Lib (hid)
open Go.RowKit
set_option maxRecDepth 100000
def pieceV (p : List UInt8 × Nat × Int) : Value := .tuple #[.string (B p.1), .int .i64 (p.2.1 : Int), .int .i32 p.2.2]
theorem pieceV_mk {p : List UInt8 × Nat × Int} {t : List UInt8} {n : Nat} {r : Int} (h : p = (t, n, r)) : Ending.returned (.tuple #[.string (B t), .int .i64 (n : Int), .int .i32 r]) = .returned (pieceV p) := by rw [h]; rfl
theorem pieceV_0 {p : List UInt8 × Nat × Int} {n r : Int} {k : Nat} (h : p = ([], k, r)) (hk : (k : Int) = n) : Ending.returned (.tuple #[.string ⟨#[]⟩, .int .i64 n, .int .i32 r]) = .returned (pieceV p) := by rw [h, <- hk]; rfl
theorem escIx_no (b : UInt8) (h : escB (b.toNat : Int) = false) : ¬ 0 <= escIx (b.toNat : Int) := by
 have h2 : ∀ n < 256, escB ((n : Nat) : Int) = false -> decide (0 <= escIx ((n : Nat) : Int)) = false := by decide +kernel
 exact of_decide_eq_false (h2 b.toNat (by have := b.toNat_lt; omega) h)
theorem escIx_yes (b : UInt8) (h : escB (b.toNat : Int) = true) : 0 <= escIx (b.toNat : Int) := by
 have h2 := escB_low _ h
 have h3 := escIx_ok _ h2.1 h2.2
 rw [h] at h3
 exact of_decide_eq_true h3
theorem drop_get {l : List UInt8} {j : Nat} {a : UInt8} {t : List UInt8} (hd : l.drop j = a :: t) (hj : j < l.length) : l[j] = a := by
 have := List.getElem_drop (xs := l) (i := j) (j := 0) (h := by simp; omega)
 simp only [Nat.add_zero] at this
 rw [<- this]
 simp only [hd, List.getElem_cons_zero]
theorem drop_get1 {l : List UInt8} {j : Nat} {a b : UInt8} {t : List UInt8} (hd : l.drop j = a :: b :: t) (hj : j + 1 < l.length) : l[j + 1] = b := by
 have := List.getElem_drop (xs := l) (i := j) (j := 1) (h := by simp; omega)
 rw [<- this]
 simp only [hd, List.getElem_cons_succ, List.getElem_cons_zero]
theorem drop_len {l : List UInt8} {j : Nat} {r : List UInt8} (hd : l.drop j = r) : r.length = l.length - j := by rw [<- hd, List.length_drop]
set_option maxHeartbeats 1600000 in
theorem piece_l (l : List UInt8) (j : Nat) (w : World) (hl : l.length <= 140737488351232) (hj : j < l.length) :
  Calls Tryz.prog 156 #[.string (B l), .int .i64 (j : Int)] w fun e w' => e = .returned (pieceV (pieceF l j)) /\ w' = w := by
 have PER0 : ∀ w, Calls Tryz.prog 120 #[.string (B (l.drop j))] w fun e w' => e = .returned (.bool (percB (l.drop j))) /\ w' = w := fun w => percent_l (l.drop j) w (by simp; unfold maxLen; omega)
 have IXB := hid indexByte_esc
 obtain ⟨v, n, hq⟩ : ∃ v n, nextAt l (j : Int) = (v, n) := ⟨_, _, rfl⟩
 have NX := hid (fun w => hq ▸ next_l l j w (by omega) (by omega))
 have hP : pieceF l j = if percB (l.drop j) = true then ((l.drop j).take 3, 3, -1) else if esc2 (l.drop j) = true then ((l.drop (j + 1)).take 1, 2, -1) else if n = 0 then ([], 0, -3) else if v = 37 \/ v = 92 then ([], 1, -2) else ((l.drop j).take n, n, v) := by unfold pieceF; rw [hq]
 have hpos : 0 < l.length - j := by omega
 cases hp : percB (l.drop j) with
 | true =>
  rw [hp, if_pos rfl] at hP
  rw [hp] at PER0
  have PER := hid PER0
  have HE := hid hP
  have h3 := percB_len hp
  rw [List.length_drop] at h3
  clear PER0 hP hp hq
  go_enter Tryz.func156, Tryz.ntmps156
  go_wp2_with (first | (go_at_call 120; refine (PER.out _).mono ?_; rintro e w1 ⟨rfl, rfl⟩) | (go_at_call 72; refine (IXB.out _ _).mono ?_; rintro e w2 ⟨rfl, rfl⟩) | (go_at_call 40; refine (NX.out _).mono ?_; rintro e w3 ⟨rfl, rfl⟩; unfold pairV) | fail)
  go_ret3
  exact ⟨pieceV_mk HE.out, rfl⟩
 | false =>
  rw [hp, if_neg (by simp)] at hP
  rw [hp] at PER0
  have PER := hid PER0
  clear PER0 hp
  obtain ⟨a, t, hd⟩ : ∃ a t, l.drop j = a :: t := by
   cases h : l.drop j with
   | nil => have := congrArg List.length h; simp at this; omega
   | cons a t => exact ⟨a, t, rfl⟩
  have ha0 := drop_get hd hj
  have hlen := drop_len hd
  by_cases ha : a = 92
  ·have e1 : ((a.toNat : Int) == 92) = true := byte_eq ha
   have hlow := nextAt_low hd (by rw [ha]; decide)
   rw [hq] at hlow
   have hv : v = 92 := by have := (Prod.mk.inj hlow).1; rw [this, ha]; rfl
   have hn : n = 1 := (Prod.mk.inj hlow).2
   rw [hv, hn] at hP
   rcases t with _ | ⟨b, t⟩
   ·have h1 : ¬ 1 < l.length - j := by rw [<- hlen]; simp
    rw [hd, show esc2 [a] = false from rfl, if_neg (by simp), if_neg (by simp), if_pos (.inr rfl)] at hP
    have HE := hid hP
    clear hP hq hlow hv hn hd hlen ha
    go_enter Tryz.func156, Tryz.ntmps156
    go_wp2_with (first | (go_at_call 120; refine (PER.out _).mono ?_; rintro e w1 ⟨rfl, rfl⟩) | (go_at_call 72; refine (IXB.out _ _).mono ?_; rintro e w2 ⟨rfl, rfl⟩) | (go_at_call 40; refine (NX.out _).mono ?_; rintro e w3 ⟨rfl, rfl⟩; unfold pairV) | fail)
    go_ret3
    exact ⟨pieceV_0 HE.out rfl, rfl⟩
   have h1 : 1 < l.length - j := by rw [<- hlen]; simp
   have hj1 : j + 1 < l.length := by omega
   have hb0 := drop_get1 hd hj1
   cases he : escB (b.toNat : Int) with
   | true =>
    have hix := escIx_yes b he
    rw [hd, show esc2 (a :: b :: t) = (decide (a = 92) && escB (b.toNat : Int)) from rfl, decide_eq_true ha, he, Bool.true_and, if_pos rfl] at hP
    have HE := hid hP
    have h2 : 2 <= l.length - j := by omega
    clear hP hq hlow hv hn hd hlen ha he
    go_enter Tryz.func156, Tryz.ntmps156
    go_wp2_with (first | (go_at_call 120; refine (PER.out _).mono ?_; rintro e w1 ⟨rfl, rfl⟩) | (go_at_call 72; refine (IXB.out _ _).mono ?_; rintro e w2 ⟨rfl, rfl⟩) | (go_at_call 40; refine (NX.out _).mono ?_; rintro e w3 ⟨rfl, rfl⟩; unfold pairV) | fail)
    go_ret3
    exact ⟨pieceV_mk HE.out, rfl⟩
   | false =>
    have hix := escIx_no b he
    rw [hd, show esc2 (a :: b :: t) = (decide (a = 92) && escB (b.toNat : Int)) from rfl, he, Bool.and_false, if_neg (by simp), if_neg (by simp), if_pos (.inr rfl)] at hP
    have HE := hid hP
    clear hP hq hlow hv hn hd hlen ha he
    go_enter Tryz.func156, Tryz.ntmps156
    go_wp2_with (first | (go_at_call 120; refine (PER.out _).mono ?_; rintro e w1 ⟨rfl, rfl⟩) | (go_at_call 72; refine (IXB.out _ _).mono ?_; rintro e w2 ⟨rfl, rfl⟩) | (go_at_call 40; refine (NX.out _).mono ?_; rintro e w3 ⟨rfl, rfl⟩; unfold pairV) | fail)
    go_ret3
    exact ⟨pieceV_0 HE.out rfl, rfl⟩
  have e1 : ((a.toNat : Int) == 92) = false := byte_ne ha
  have hes : esc2 (l.drop j) = false := by
   cases h : esc2 (l.drop j) with
   | false => rfl
   | true => obtain ⟨b, t', e, _⟩ := esc2_front h; rw [hd] at e; cases e; exact absurd rfl ha
  rw [hes, if_neg (by simp)] at hP
  by_cases hb : a = 37
  ·have e2 : ((a.toNat : Int) == 37) = true := byte_eq hb
   have hlow := nextAt_low hd (by rw [hb]; decide)
   rw [hq] at hlow
   have hv : v = 37 := by have := (Prod.mk.inj hlow).1; rw [this, hb]; rfl
   have hn : n = 1 := (Prod.mk.inj hlow).2
   rw [hv, hn, if_neg (by simp), if_pos (.inl rfl)] at hP
   have HE := hid hP
   clear hP hq hlow hv hn hd hlen ha hb hes
   go_enter Tryz.func156, Tryz.ntmps156
   go_wp2_with (first | (go_at_call 120; refine (PER.out _).mono ?_; rintro e w1 ⟨rfl, rfl⟩) | (go_at_call 72; refine (IXB.out _ _).mono ?_; rintro e w2 ⟨rfl, rfl⟩) | (go_at_call 40; refine (NX.out _).mono ?_; rintro e w3 ⟨rfl, rfl⟩; unfold pairV) | fail)
   go_ret3
   exact ⟨pieceV_0 HE.out rfl, rfl⟩
  have e2 : ((a.toNat : Int) == 37) = false := byte_ne hb
  by_cases hn : n = 0
  ·have e0 : ((n : Int) == 0) = true := by rw [hn]; rfl
   rw [if_pos hn] at hP
   have HE := hid hP
   clear hP hq hn hd hlen ha hb hes
   go_enter Tryz.func156, Tryz.ntmps156
   go_wp2_with (first | (go_at_call 120; refine (PER.out _).mono ?_; rintro e w1 ⟨rfl, rfl⟩) | (go_at_call 72; refine (IXB.out _ _).mono ?_; rintro e w2 ⟨rfl, rfl⟩) | (go_at_call 40; refine (NX.out _).mono ?_; rintro e w3 ⟨rfl, rfl⟩; unfold pairV) | fail)
   go_ret3
   exact ⟨pieceV_0 HE.out rfl, rfl⟩
  have e0 : ((n : Int) == 0) = false := beq_eq_false_iff_ne.2 (by omega)
  have hbd := nextAt_bound hq hn
  have hjn : n <= l.length - j := by omega
  have hv : ¬ (v = 37 \/ v = 92) := by
   intro h
   have := nextAt_head hq hn (by omega) hd
   rcases h with h | h
   ·exact hb (UInt8.toNat_inj.1 (by rw [show (37 : UInt8).toNat = 37 from rfl]; omega))
   ·exact ha (UInt8.toNat_inj.1 (by rw [show (92 : UInt8).toNat = 92 from rfl]; omega))
  rw [if_neg hn, if_neg hv] at hP
  have HE := hid hP
  clear hP hq hn hd hlen ha hb hes hv hbd
  go_enter Tryz.func156, Tryz.ntmps156
  go_wp2_with (first | (go_at_call 120; refine (PER.out _).mono ?_; rintro e w1 ⟨rfl, rfl⟩) | (go_at_call 72; refine (IXB.out _ _).mono ?_; rintro e w2 ⟨rfl, rfl⟩) | (go_at_call 40; refine (NX.out _).mono ?_; rintro e w3 ⟨rfl, rfl⟩; unfold pairV) | fail)
  go_ret3
  exact ⟨pieceV_mk HE.out, rfl⟩
end Go.Proofs.YtdhmpakhdhdebaaGreatDoor
namespace Go.Proofs.YtdhmpakhdhdebaaGreatDoor
open Go.Lib (hid)
open Go.RowKit
set_option maxRecDepth 100000
def refPieceF (l : List UInt8) (j : Nat) : List UInt8 × Nat × Int :=
 if percB (l.drop j) = true then ((l.drop j).take 3, 3, -1)
 else if esc2 (l.drop j) = true then ((l.drop (j + 1)).take 1, 2, -1)
 else if (nextAt l j).2 = 0 \/ (nextAt l j).1 = 37 \/ (nextAt l j).1 = 92 then ([], 0, 0)
 else ((l.drop j).take (nextAt l j).2, (nextAt l j).2, (nextAt l j).1)
def refPieceV (j : Nat) (p : List UInt8 × Nat × Int) : Value := .agg #[.int .i64 (j : Int), .int .i64 (p.2.1 : Int), .string (B p.1), .int .i64 p.2.2]
theorem wrap64_byte (b : UInt8) : wrap64 (b.toNat : Int) = (b.toNat : Int) := by have := b.toNat_lt; unfold wrap64; omega
attribute [go_sem] wrap64_byte
theorem refPieceV_mk {j : Nat} {p : List UInt8 × Nat × Int} {t : List UInt8} {n : Nat} {r : Int} (h : p = (t, n, r)) : Ending.returned (.agg #[.int .i64 (j : Int), .int .i64 (n : Int), .string (B t), .int .i64 r]) = .returned (refPieceV j p) := by rw [h]; rfl
theorem refPieceV_0 {j : Nat} {p : List UInt8 × Nat × Int} (h : p = ([], 0, 0)) : Ending.returned (.agg #[.int .i64 (j : Int), .int .i64 0, .string ⟨#[]⟩, .int .i64 0]) = .returned (refPieceV j p) := by rw [h]; rfl
set_option maxHeartbeats 1600000 in
theorem refPiece_l (l : List UInt8) (j : Nat) (w : World) (hl : l.length <= 140737488351232) (hj : j < l.length) :
  Calls Tryz.prog 234 #[.string (B l), .int .i64 (j : Int)] w fun e w' => e = .returned (refPieceV j (refPieceF l j)) /\ Below w.heap.size w w' := by
 have PER0 : ∀ w, Calls Tryz.prog 127 #[.string (B l), .int .i64 (j : Int)] w fun e w' => e = .returned (.bool (percB (l.drop j))) /\ w' = w := fun w => refPercent_l l j w (by omega) (by omega)
 have ESC := hid escapable_any
 obtain ⟨v, n, hq⟩ : ∃ v n, nextAt l (j : Int) = (v, n) := ⟨_, _, rfl⟩
 have NX := hid (fun w => hq ▸ refNext_l l j w (by omega) (by omega))
 have hP : refPieceF l j = if percB (l.drop j) = true then ((l.drop j).take 3, 3, -1) else if esc2 (l.drop j) = true then ((l.drop (j + 1)).take 1, 2, -1) else if n = 0 \/ v = 37 \/ v = 92 then ([], 0, 0) else ((l.drop j).take n, n, v) := by unfold refPieceF; rw [hq]
 have HB : Hid (∀ w3, Below (w.alloc (.cells #[.int .i64 0, .int .i64 0, .string ⟨#[]⟩, .int .i64 0] 253)).heap.size (w.alloc (.cells #[.int .i64 0, .int .i64 0, .string ⟨#[]⟩, .int .i64 0] 253)) w3 -> Below w.heap.size w w3) := hid (fun w3 h => ((Below.refl w.heap.size w).alloc (Nat.le_refl _) _).trans (h.mono (by simp)))
 have HC : Hid (∀ w3, Below (w.alloc (.cells #[.int .i64 0, .int .i64 0, .string ⟨#[]⟩, .int .i64 0] 253)).heap.size (w.alloc (.cells #[.int .i64 0, .int .i64 0, .string ⟨#[]⟩, .int .i64 0] 253)) w3 -> ∀ (k : Nat) (x : Value), (#[.int .i64 0, .int .i64 0, .string ⟨#[]⟩, .int .i64 0] : Array Value)[k]? = some x -> w3.cell? ⟨w.heap.size, k, none⟩ = some x) := hid (fun w3 h k x hx => by rw [h.cell (p := ⟨w.heap.size, k, none⟩) (by simp), World.cell?_alloc_new]; exact hx)
 have HF : Hid (∀ w3, Below (w.alloc (.cells #[.int .i64 0, .int .i64 0, .string ⟨#[]⟩, .int .i64 0] 253)).heap.size (w.alloc (.cells #[.int .i64 0, .int .i64 0, .string ⟨#[]⟩, .int .i64 0] 253)) w3 -> w3.frozen? ⟨w.heap.size, 0, none⟩ = false /\ w3.frozen? ⟨w.heap.size, 1, none⟩ = false /\ w3.frozen? ⟨w.heap.size, 2, none⟩ = false /\ w3.frozen? ⟨w.heap.size, 3, none⟩ = false) := hid (fun w3 h => by refine ⟨?_, ?_, ?_, ?_⟩ <;> (rw [h.frozen (by simp)]; simp))
 cases hp : percB (l.drop j) with
 | true =>
  rw [hp, if_pos rfl] at hP
  rw [hp] at PER0
  have PER := hid PER0
  have HE := hid hP
  have h3 := percB_len hp
  rw [List.length_drop] at h3
  have hj3 : j + 3 <= l.length := by omega
  have hs : j + 3 - j = 3 := by omega
  clear PER0 hP hp hq h3
  go_enter Tryz.func234, Tryz.ntmps234
  go_wp2_with (first | (go_at_call 127; refine (PER.out _).mono ?_; rintro e w1 ⟨rfl, rfl⟩) | (go_at_call 129; refine (ESC.out _ _).mono ?_; rintro e w2 ⟨rfl, rfl⟩) | (go_at_call 64; refine (NX.out _).mono ?_; rintro e w3 ⟨rfl, hx3⟩; unfold pairI; have hb := HB.out _ hx3; have c0 := HC.out _ hx3 0 _ rfl; have c1 := HC.out _ hx3 1 _ rfl; have c2 := HC.out _ hx3 2 _ rfl; have c3 := HC.out _ hx3 3 _ rfl; obtain ⟨f0, f1, f2, f3⟩ := HF.out _ hx3; clear hx3) | fail)
  rw [hs]
  refine bodyPost_ret (v := .agg #[.int .i64 (j : Int), .int .i64 3, .string (B ((l.drop j).take 3)), .int .i64 (-1)]) (by simp [results, Tryz.results234, go_sem]) rfl ?_
  exact ⟨refPieceV_mk HE.out, (Below.refl w.heap.size w).alloc (Nat.le_refl _) _⟩
 | false =>
  rw [hp, if_neg (by simp)] at hP
  rw [hp] at PER0
  have PER := hid PER0
  clear PER0 hp
  obtain ⟨a, t, hd⟩ : ∃ a t, l.drop j = a :: t := by
   cases h : l.drop j with
   | nil => have := congrArg List.length h; simp at this; omega
   | cons a t => exact ⟨a, t, rfl⟩
  have ha0 := drop_get hd hj
  have hlen := drop_len hd
  by_cases ha : a = 92
  ·have e1 : ((a.toNat : Int) == 92) = true := byte_eq ha
   have hlow := nextAt_low hd (by rw [ha]; decide)
   rw [hq] at hlow
   have hv : v = 92 := by have := (Prod.mk.inj hlow).1; rw [this, ha]; rfl
   have hn : n = 1 := (Prod.mk.inj hlow).2
   subst hv hn
   rcases t with _ | ⟨b, t⟩
   ·have h1 : ¬ j + 1 < l.length := by simp at hlen; omega
    rw [hd, show esc2 [a] = false from rfl, if_neg (by simp), if_pos (.inr (.inr rfl))] at hP
    have HE := hid hP
    clear hP hq hlow hd hlen ha
    go_enter Tryz.func234, Tryz.ntmps234
    go_wp2_with (first | (go_at_call 127; refine (PER.out _).mono ?_; rintro e w1 ⟨rfl, rfl⟩) | (go_at_call 129; refine (ESC.out _ _).mono ?_; rintro e w2 ⟨rfl, rfl⟩) | (go_at_call 64; refine (NX.out _).mono ?_; rintro e w3 ⟨rfl, hx3⟩; unfold pairI; have hb := HB.out _ hx3; have c0 := HC.out _ hx3 0 _ rfl; have c1 := HC.out _ hx3 1 _ rfl; have c2 := HC.out _ hx3 2 _ rfl; have c3 := HC.out _ hx3 3 _ rfl; obtain ⟨f0, f1, f2, f3⟩ := HF.out _ hx3; clear hx3) | fail)
    refine bodyPost_ret (v := .agg #[.int .i64 (j : Int), .int .i64 0, .string ⟨#[]⟩, .int .i64 0]) (by simp [results, Tryz.results234, go_sem, c0, c1, c2, c3]) rfl ?_
    exact ⟨refPieceV_0 HE.out, (((hb.setCell (Nat.le_refl _) _).setCell (Nat.le_refl _) _).setCell (Nat.le_refl _) _).setCell (Nat.le_refl _) _⟩
   have h1 : j + 1 < l.length := by simp at hlen; omega
   have hb0 := drop_get1 hd h1
   cases he : escB (b.toNat : Int) with
   | true =>
    rw [hd, show esc2 (a :: b :: t) = (decide (a = 92) && escB (b.toNat : Int)) from rfl, decide_eq_true ha, he, Bool.true_and, if_pos rfl] at hP
    have HE := hid hP
    have h2 : j + 2 <= l.length := by omega
    have hs : j + 2 - (j + 1) = 1 := by omega
    clear hP hq hlow hd hlen ha
    go_enter Tryz.func234, Tryz.ntmps234
    go_wp2_with (first | (go_at_call 127; refine (PER.out _).mono ?_; rintro e w1 ⟨rfl, rfl⟩) | (go_at_call 129; refine (ESC.out _ _).mono ?_; rintro e w2 ⟨rfl, rfl⟩) | (go_at_call 64; refine (NX.out _).mono ?_; rintro e w3 ⟨rfl, hx3⟩; unfold pairI; have hb := HB.out _ hx3; have c0 := HC.out _ hx3 0 _ rfl; have c1 := HC.out _ hx3 1 _ rfl; have c2 := HC.out _ hx3 2 _ rfl; have c3 := HC.out _ hx3 3 _ rfl; obtain ⟨f0, f1, f2, f3⟩ := HF.out _ hx3; clear hx3) | fail)
    rw [hs]
    refine bodyPost_ret (v := .agg #[.int .i64 (j : Int), .int .i64 2, .string (B ((l.drop (j + 1)).take 1)), .int .i64 (-1)]) (by simp [results, Tryz.results234, go_sem]) rfl ?_
    exact ⟨refPieceV_mk HE.out, (Below.refl w.heap.size w).alloc (Nat.le_refl _) _⟩
   | false =>
    rw [hd, show esc2 (a :: b :: t) = (decide (a = 92) && escB (b.toNat : Int)) from rfl, he, Bool.and_false, if_neg (by simp), if_pos (.inr (.inr rfl))] at hP
    have HE := hid hP
    clear hP hq hlow hd hlen ha
    go_enter Tryz.func234, Tryz.ntmps234
    go_wp2_with (first | (go_at_call 127; refine (PER.out _).mono ?_; rintro e w1 ⟨rfl, rfl⟩) | (go_at_call 129; refine (ESC.out _ _).mono ?_; rintro e w2 ⟨rfl, rfl⟩) | (go_at_call 64; refine (NX.out _).mono ?_; rintro e w3 ⟨rfl, hx3⟩; unfold pairI; have hb := HB.out _ hx3; have c0 := HC.out _ hx3 0 _ rfl; have c1 := HC.out _ hx3 1 _ rfl; have c2 := HC.out _ hx3 2 _ rfl; have c3 := HC.out _ hx3 3 _ rfl; obtain ⟨f0, f1, f2, f3⟩ := HF.out _ hx3; clear hx3) | fail)
    refine bodyPost_ret (v := .agg #[.int .i64 (j : Int), .int .i64 0, .string ⟨#[]⟩, .int .i64 0]) (by simp [results, Tryz.results234, go_sem, c0, c1, c2, c3]) rfl ?_
    exact ⟨refPieceV_0 HE.out, (((hb.setCell (Nat.le_refl _) _).setCell (Nat.le_refl _) _).setCell (Nat.le_refl _) _).setCell (Nat.le_refl _) _⟩
  have e1 : ((a.toNat : Int) == 92) = false := byte_ne ha
  have hes : esc2 (l.drop j) = false := by
   cases h : esc2 (l.drop j) with
   | false => rfl
   | true => obtain ⟨b, t', e, _⟩ := esc2_front h; rw [hd] at e; cases e; exact absurd rfl ha
  rw [hes, if_neg (by simp)] at hP
  by_cases hn : n = 0
  ·have e0 : ((n : Int) == 0) = true := by rw [hn]; rfl
   rw [if_pos (.inl hn)] at hP
   have HE := hid hP
   clear hP hq hn hd hlen ha hes
   go_enter Tryz.func234, Tryz.ntmps234
   go_wp2_with (first | (go_at_call 127; refine (PER.out _).mono ?_; rintro e w1 ⟨rfl, rfl⟩) | (go_at_call 129; refine (ESC.out _ _).mono ?_; rintro e w2 ⟨rfl, rfl⟩) | (go_at_call 64; refine (NX.out _).mono ?_; rintro e w3 ⟨rfl, hx3⟩; unfold pairI; have hb := HB.out _ hx3; have c0 := HC.out _ hx3 0 _ rfl; have c1 := HC.out _ hx3 1 _ rfl; have c2 := HC.out _ hx3 2 _ rfl; have c3 := HC.out _ hx3 3 _ rfl; obtain ⟨f0, f1, f2, f3⟩ := HF.out _ hx3; clear hx3) | fail)
   refine bodyPost_ret (v := .agg #[.int .i64 (j : Int), .int .i64 0, .string ⟨#[]⟩, .int .i64 0]) (by simp [results, Tryz.results234, go_sem, c0, c1, c2, c3]) rfl ?_
   exact ⟨refPieceV_0 HE.out, (((hb.setCell (Nat.le_refl _) _).setCell (Nat.le_refl _) _).setCell (Nat.le_refl _) _).setCell (Nat.le_refl _) _⟩
  have e0 : ((n : Int) == 0) = false := beq_eq_false_iff_ne.2 (by omega)
  by_cases h37 : v = 37
  ·have e2 : (v == 37) = true := beq_iff_eq.2 h37
   rw [if_pos (.inr (.inl h37))] at hP
   have HE := hid hP
   clear hP hq hn hd hlen ha hes h37
   go_enter Tryz.func234, Tryz.ntmps234
   go_wp2_with (first | (go_at_call 127; refine (PER.out _).mono ?_; rintro e w1 ⟨rfl, rfl⟩) | (go_at_call 129; refine (ESC.out _ _).mono ?_; rintro e w2 ⟨rfl, rfl⟩) | (go_at_call 64; refine (NX.out _).mono ?_; rintro e w3 ⟨rfl, hx3⟩; unfold pairI; have hb := HB.out _ hx3; have c0 := HC.out _ hx3 0 _ rfl; have c1 := HC.out _ hx3 1 _ rfl; have c2 := HC.out _ hx3 2 _ rfl; have c3 := HC.out _ hx3 3 _ rfl; obtain ⟨f0, f1, f2, f3⟩ := HF.out _ hx3; clear hx3) | fail)
   refine bodyPost_ret (v := .agg #[.int .i64 (j : Int), .int .i64 0, .string ⟨#[]⟩, .int .i64 0]) (by simp [results, Tryz.results234, go_sem, c0, c1, c2, c3]) rfl ?_
   exact ⟨refPieceV_0 HE.out, (((hb.setCell (Nat.le_refl _) _).setCell (Nat.le_refl _) _).setCell (Nat.le_refl _) _).setCell (Nat.le_refl _) _⟩
  have e2 : (v == 37) = false := beq_eq_false_iff_ne.2 h37
  by_cases h92 : v = 92
  ·have e3 : (v == 92) = true := beq_iff_eq.2 h92
   rw [if_pos (.inr (.inr h92))] at hP
   have HE := hid hP
   clear hP hq hn hd hlen ha hes h37 h92
   go_enter Tryz.func234, Tryz.ntmps234
   go_wp2_with (first | (go_at_call 127; refine (PER.out _).mono ?_; rintro e w1 ⟨rfl, rfl⟩) | (go_at_call 129; refine (ESC.out _ _).mono ?_; rintro e w2 ⟨rfl, rfl⟩) | (go_at_call 64; refine (NX.out _).mono ?_; rintro e w3 ⟨rfl, hx3⟩; unfold pairI; have hb := HB.out _ hx3; have c0 := HC.out _ hx3 0 _ rfl; have c1 := HC.out _ hx3 1 _ rfl; have c2 := HC.out _ hx3 2 _ rfl; have c3 := HC.out _ hx3 3 _ rfl; obtain ⟨f0, f1, f2, f3⟩ := HF.out _ hx3; clear hx3) | fail)
   refine bodyPost_ret (v := .agg #[.int .i64 (j : Int), .int .i64 0, .string ⟨#[]⟩, .int .i64 0]) (by simp [results, Tryz.results234, go_sem, c0, c1, c2, c3]) rfl ?_
   exact ⟨refPieceV_0 HE.out, (((hb.setCell (Nat.le_refl _) _).setCell (Nat.le_refl _) _).setCell (Nat.le_refl _) _).setCell (Nat.le_refl _) _⟩
  have e3 : (v == 92) = false := beq_eq_false_iff_ne.2 h92
  have hbd := nextAt_bound hq hn
  have hjn : j + n <= l.length := by omega
  have hjn1 : j <= j + n := by omega
  have hs : j + n - j = n := by omega
  rw [if_neg (by simp [hn, h37, h92])] at hP
  have HE := hid hP
  clear hP hq hn hd hlen ha hes h37 h92 hbd
  go_enter Tryz.func234, Tryz.ntmps234
  go_wp2_with (first | (go_at_call 127; refine (PER.out _).mono ?_; rintro e w1 ⟨rfl, rfl⟩) | (go_at_call 129; refine (ESC.out _ _).mono ?_; rintro e w2 ⟨rfl, rfl⟩) | (go_at_call 64; refine (NX.out _).mono ?_; rintro e w3 ⟨rfl, hx3⟩; unfold pairI; have hb := HB.out _ hx3; have c0 := HC.out _ hx3 0 _ rfl; have c1 := HC.out _ hx3 1 _ rfl; have c2 := HC.out _ hx3 2 _ rfl; have c3 := HC.out _ hx3 3 _ rfl; obtain ⟨f0, f1, f2, f3⟩ := HF.out _ hx3; clear hx3) | fail)
  rw [hs]
  refine bodyPost_ret (v := .agg #[.int .i64 (j : Int), .int .i64 (n : Int), .string (B ((l.drop j).take n)), .int .i64 v]) (by simp [results, Tryz.results234, go_sem, c0, c1, c2, c3]) rfl ?_
  exact ⟨refPieceV_mk HE.out, (((hb.setCell (Nat.le_refl _) _).setCell (Nat.le_refl _) _).setCell (Nat.le_refl _) _).setCell (Nat.le_refl _) _⟩
end Go.Proofs.YtdhmpakhdhdebaaGreatDoor
namespace Go.Proofs.YtdhmpakhdhdebaaGreatDoor
open Go.Lib (hid)
open Go.RowKit
set_option maxRecDepth 100000
theorem piece_cases {l : List UInt8} {j n : Nat} {t : List UInt8} {r : Int} (h : pieceF l j = (t, n, r)) :
  (r = -1 /\ stepL l j = .inl (t, n)) \/ (r = -3 /\ stepL l j = .inr 40) \/ (r = -2 /\ stepL l j = .inr 62) \/ (0 <= r /\ j + n <= l.length /\ stepL l j = if standsB r (decide (j = 0)) (decide (j + n = l.length)) = true then .inl (t, n) else .inr 62) := by
 obtain ⟨v, m, hq⟩ : ∃ v m, nextAt l (j : Int) = (v, m) := ⟨_, _, rfl⟩
 unfold pieceF at h
 unfold stepL
 rw [hq] at h ⊢
 simp only at h ⊢
 by_cases h1 : percB (l.drop j) = true
 ·rw [if_pos h1] at h ⊢; cases h; exact .inl ⟨rfl, rfl⟩
 rw [if_neg h1] at h ⊢
 by_cases h2 : esc2 (l.drop j) = true
 ·rw [if_pos h2] at h ⊢; cases h; exact .inl ⟨rfl, rfl⟩
 rw [if_neg h2] at h ⊢
 by_cases h3 : m = 0
 ·rw [if_pos h3] at h ⊢; cases h; exact .inr (.inl ⟨rfl, rfl⟩)
 rw [if_neg h3] at h ⊢
 by_cases h4 : v = 37 \/ v = 92
 ·rw [if_pos h4] at h ⊢; cases h; exact .inr (.inr (.inl ⟨rfl, rfl⟩))
 rw [if_neg h4] at h ⊢
 cases h
 exact .inr (.inr (.inr ⟨(nextAt_bound hq h3).2.2.1, by have := (nextAt_bound hq h3).2.1; omega, rfl⟩))
def sayF : List UInt8 ⊕ (Nat × Int) -> List UInt8
 | .inl t => t
 | .inr _ => []
end Go.Proofs.YtdhmpakhdhdebaaGreatDoor
namespace Go.Proofs.YtdhmpakhdhdebaaGreatDoor
open Go.Lib (hid)
open Go.RowKit
set_option maxRecDepth 100000
def ErrIs (w : World) (v : Value) : List UInt8 ⊕ (Nat × Int) -> Prop
 | .inl _ => v = .nilIface
 | .inr (p, n) => ∃ b, v = .iface 91 (.pointer (some ⟨b, 0, none⟩)) /\ w.cell? ⟨b, 0, none⟩ = some (.int .i64 (p : Int)) /\ w.cell? ⟨b, 1, none⟩ = some (.iface 74 (.int .i64 n))
theorem ErrIs.below {w w' : World} {v : Value} {x : List UInt8 ⊕ (Nat × Int)} (h : ErrIs w v x) (hb : Below w.heap.size w w') : ErrIs w' v x := by
 rcases x with t | ⟨p, n⟩
 ·exact h
 ·obtain ⟨b, rfl, h1, h2⟩ := h
  exact ⟨b, rfl, by rw [hb.cell (World.block_lt_of_cell? _ _ h1)]; exact h1, by rw [hb.cell (World.block_lt_of_cell? _ _ h2)]; exact h2⟩
theorem wrong_l (p n : Int) (w : World) : Calls Tryz.prog 157 #[.int .i64 p, .int .i64 n] w fun e w' => e = .returned (.iface 91 (.pointer (some ⟨w.heap.size, 0, none⟩))) /\ w' = w.alloc (.cells #[.int .i64 p, .iface 74 (.int .i64 n)] 95) := by
 go_enter Tryz.func157, Tryz.ntmps157
 go_wp2
 go_ret
 exact ⟨rfl, rfl⟩
def LocPost (w' : World) (e : Ending) (x : List UInt8 ⊕ (Nat × Int)) : Prop := ∃ v, e = .returned (.tuple #[.string (B (sayF x)), v]) /\ ErrIs w' v x
theorem locPost_bad {x : List UInt8 ⊕ (Nat × Int)} {p : Nat} {n : Int} {w : World} (h : x = .inr (p, n)) :
  LocPost (w.alloc (.cells #[.int .i64 (p : Int), .iface 74 (.int .i64 n)] 95)) (.returned (.tuple #[.string ⟨#[]⟩, .iface 91 (.pointer (some ⟨w.heap.size, 0, none⟩))])) x := by
 subst h
 exact ⟨_, rfl, _, rfl, by rw [World.cell?_alloc_new]; rfl, by rw [World.cell?_alloc_new]; rfl⟩
set_option maxHeartbeats 1600000 in
theorem local_l (l : List UInt8) (w : World) (hl : l.length <= 140737488351232) (hT : TabAt w) :
  Calls Tryz.prog 109 #[.string (B l)] w fun e w' => LocPost w' e (locF l 0) /\ Below w.heap.size w w' := by
 have PIE := hid (fun (j : Nat) (hj : j < l.length) (t : List UInt8) (n : Nat) (r : Int) (h : pieceF l j = (t, n, r)) (w : World) => h ▸ piece_l l j w hl hj)
 have WRI := hid writeString_l
 have STR := hid builderString_l
 have WRO := hid wrong_l
 have HT := hid hT
 clear hT
 go_enter Tryz.func109, Tryz.ntmps109
 go_wp2_with fail
 go_loopw [5] (fun i wr => ∃ (j : Nat) (acc : List UInt8), i = .int .i64 j /\ j <= l.length /\ acc.length <= j /\ Hid (locF l 0 = putF acc (locF l j)) /\ BuildsB wr w.heap.size w.heap.size acc /\ Below w.heap.size w wr) (fun i _ => l.length - (intOf i).toNat)
 case atStart => exact ⟨0, [], rfl, Nat.zero_le _, Nat.le_refl _, hid (putF_nil _).symm, Lib.fresh_isBuilder _ _ _, (Below.refl _ _).alloc (Nat.le_refl _) _⟩
 case round =>
  obtain ⟨j, acc, rfl, hj, hacc, HS, hbu, hb⟩ := hrel
  by_cases hlt : j < l.length
  ·obtain ⟨t, n, r, hq⟩ : ∃ t n r, pieceF l j = (t, n, r) := ⟨_, _, _, rfl⟩
   have P2 := hid (PIE.out j hlt t n r hq)
   rcases piece_cases hq with ⟨hr, hst⟩ | ⟨hr, hst⟩ | ⟨hr, hst⟩ | ⟨hr, hjn, hst⟩
   ·subst hr
    have hbd := stepL_bound hst
    have hjn : j + n <= l.length := by omega
    have hjn1 : j < j + n := by omega
    have HE : Hid (locF l 0 = putF (acc ++ t) (locF l (j + n))) := hid (by rw [HS.out, locF_step hlt hst, putF_put])
    have HL := hid hbd.2.2
    have hlx : acc.length + t.length <= 140737488355328 := by omega
    clear hq HS hst hbd
    go_wp2_with (first | (go_at_call 156; refine (P2.out _).mono ?_; rintro e w1 ⟨rfl, rfl⟩; unfold pieceV) | (go_at_call 48; refine (WRI.out _ _ acc t _ hbu ?c1 hb.size).mono ?_; rotate_left; rintro e w4 ⟨rfl, hbu2, hb4⟩; replace hb := hb.trans hb4; clear hbu hb4))
    case c1 => exact hlx
    go_roundw
    case rel => exact ⟨j + n, acc ++ t, by go_num, hjn, by have := HL.out; simp; omega, HE, hbu2, hb⟩
    case measure => simp [intOf]; omega
   ·subst hr
    have HE : Hid (locF l 0 = .inr (j, 40)) := hid (by rw [HS.out, locF_bad hlt hst]; rfl)
    clear hq HS hst
    go_wp2_with (first | (go_at_call 156; refine (P2.out _).mono ?_; rintro e w1 ⟨rfl, rfl⟩; unfold pieceV) | (go_at_call 157; refine (WRO.out _ _ _).mono ?_; rintro e w4 ⟨rfl, rfl⟩))
    go_ret2
    exact ⟨locPost_bad HE.out, hb.alloc hb.size _⟩
   ·subst hr
    have HE : Hid (locF l 0 = .inr (j, 62)) := hid (by rw [HS.out, locF_bad hlt hst]; rfl)
    clear hq HS hst
    go_wp2_with (first | (go_at_call 156; refine (P2.out _).mono ?_; rintro e w1 ⟨rfl, rfl⟩; unfold pieceV) | (go_at_call 157; refine (WRO.out _ _ _).mono ?_; rintro e w4 ⟨rfl, rfl⟩))
    go_ret2
    exact ⟨locPost_bad HE.out, hb.alloc hb.size _⟩
   ·have r3 : (r == -3) = false := beq_eq_false_iff_ne.2 (by omega)
    have r2 : (r == -2) = false := beq_eq_false_iff_ne.2 (by omega)
    have STA : Hid (∀ w, TabAt w -> Calls Tryz.prog 119 #[.int .i32 r, .bool ((j : Int) == 0), .bool ((j : Int) + (n : Int) == (l.length : Int))] w fun e w' => e = .returned (.bool (standsB r (decide (j = 0)) (decide (j + n = l.length)))) /\ w' = w) := by
     refine hid (fun w h => ?_)
     have h1 : ((j : Int) == 0) = decide (j = 0) := by rw [Bool.eq_iff_iff]; simp
     have h2 : ((j : Int) + (n : Int) == (l.length : Int)) = decide (j + n = l.length) := by rw [Bool.eq_iff_iff]; simp; omega
     rw [h1, h2]
     exact stands_any r _ _ w h
    have hnn : n <= l.length := by omega
    cases hs : standsB r (decide (j = 0)) (decide (j + n = l.length)) with
    | true =>
     rw [hs, if_pos rfl] at hst
     rw [hs] at STA
     have hbd := stepL_bound hst
     have hjn1 : j < j + n := by omega
     have HE : Hid (locF l 0 = putF (acc ++ t) (locF l (j + n))) := hid (by rw [HS.out, locF_step hlt hst, putF_put])
     have HL := hid hbd.2.2
     have hlx : acc.length + t.length <= 140737488355328 := by omega
     clear hq HS hst hbd hs
     go_wp2_with (first | (go_at_call 156; refine (P2.out _).mono ?_; rintro e w1 ⟨rfl, rfl⟩; unfold pieceV) | (go_at_call 119; refine (STA.out _ (HT.out.below hb)).mono ?_; rintro e w2 ⟨rfl, rfl⟩) | (go_at_call 48; refine (WRI.out _ _ acc t _ hbu ?c1 hb.size).mono ?_; rotate_left; rintro e w4 ⟨rfl, hbu2, hb4⟩; replace hb := hb.trans hb4; clear hbu hb4))
     case c1 => exact hlx
     go_roundw
     case rel => exact ⟨j + n, acc ++ t, by go_num, hjn, by have := HL.out; simp; omega, HE, hbu2, hb⟩
     case measure => simp [intOf]; omega
    | false =>
     rw [hs, if_neg (by simp)] at hst
     rw [hs] at STA
     have HE : Hid (locF l 0 = .inr (j, 62)) := hid (by rw [HS.out, locF_bad hlt hst]; rfl)
     clear hq HS hst hs
     go_wp2_with (first | (go_at_call 156; refine (P2.out _).mono ?_; rintro e w1 ⟨rfl, rfl⟩; unfold pieceV) | (go_at_call 119; refine (STA.out _ (HT.out.below hb)).mono ?_; rintro e w2 ⟨rfl, rfl⟩) | (go_at_call 157; refine (WRO.out _ _ _).mono ?_; rintro e w4 ⟨rfl, rfl⟩))
     go_ret2
     exact ⟨locPost_bad HE.out, hb.alloc hb.size _⟩
  ·obtain rfl : j = l.length := by omega
   have HE : Hid (locF l 0 = .inl acc) := hid (by rw [HS.out, locF_end (Nat.le_refl _)]; simp [putF])
   clear HS
   go_wp2_with (go_at_call 50; refine (STR.out _ _ acc _ hbu hb.size).mono ?_; rintro e w4 ⟨rfl, hb4⟩; replace hb := hb.trans hb4)
   go_ret2
   exact ⟨⟨_, by rw [HE.out]; rfl, by rw [HE.out]; rfl⟩, hb⟩
end Go.Proofs.YtdhmpakhdhdebaaGreatDoor
namespace Go.Proofs.YtdhmpakhdhdebaaGreatDoor
open Go.Lib (hid)
open Go.RowKit
set_option maxRecDepth 100000
theorem number_none {t : List UInt8} {k : Nat} (hk : k <= 8) (hl : t.length <= 4611686018427387904) (h : numF t k = none) (s : ByteArray) (hs : s = B t) (z : Int) (hz : z = (k : Int)) (w : World) :
  Calls Tryz.prog 228 #[.string s, .int .i64 z] w fun e w' => (∃ x, e = .returned (.tuple #[.int .i32 x, .bool false])) /\ w' = w := by
 subst hs hz
 refine (number_l t k w hk hl).mono ?_
 rintro e w' ⟨⟨x, b, rfl, hb, _⟩, rfl⟩
 rw [h] at hb
 obtain rfl : b = false := hb
 exact ⟨⟨x, rfl⟩, rfl⟩
theorem number_some {t : List UInt8} {k : Nat} {r : Int} (hk : k <= 8) (hl : t.length <= 4611686018427387904) (h : numF t k = some r) (s : ByteArray) (hs : s = B t) (z : Int) (hz : z = (k : Int)) (w : World) :
  Calls Tryz.prog 228 #[.string s, .int .i64 z] w fun e w' => e = .returned (.tuple #[.int .i32 r, .bool true]) /\ w' = w := by
 subst hs hz
 refine (number_l t k w hk hl).mono ?_
 rintro e w' ⟨⟨x, b, rfl, hb, hx⟩, rfl⟩
 rw [h] at hb
 obtain rfl : b = true := hb
 rw [hx r h]
 exact ⟨rfl, rfl⟩
theorem let_none (c : UInt8) (h : meantF c = none) : Lib.indexByte letS.data.toList ((c.toNat : Int).toNat.toUInt8) = -1 := by
 have h2 : ∀ n < 256, (meantF n.toUInt8).isNone = true -> Lib.indexByte letS.data.toList n.toUInt8 = -1 := by decide +kernel
 rw [Int.toNat_natCast]
 exact h2 c.toNat c.toNat_lt (by rw [show c.toNat.toUInt8 = c by simp, h]; rfl)
theorem meantF_some {c : UInt8} {r : Int} (h : meantF c = some r) : (c = 116 /\ r = 9) \/ (c = 98 /\ r = 8) \/ (c = 110 /\ r = 10) \/ (c = 114 /\ r = 13) \/ (c = 102 /\ r = 12) \/ (c = 34 /\ r = 34) \/ (c = 39 /\ r = 39) \/ (c = 92 /\ r = 92) := by
 unfold meantF at h
 repeat' (first | (split at h; · next e => cases h; simp [e]) | cases h)
theorem escN_short {way : Int} {t : List UInt8} (h : t.length < 2) : escN way t = (0, 0) := by
 match t, h with
 | [], _ => simp [escN]
 | [_], _ => simp [escN]
theorem escN_two {way : Int} {t : List UInt8} (h : 1 < t.length) : escN way t = if t[1] = 117 then pairN 6 (numF (t.drop 2) 4) else if t[1] = 85 then pairN 10 (numF (t.drop 2) 8) else if way = 1 then pairN 2 (meantF t[1]) else (0, 0) := by
 match t, h with
 | _ :: c :: t, _ => rw [escN]; rfl
set_option maxHeartbeats 3200000 in
theorem escape_l (way : Int) (t : List UInt8) (w : World) (hl : t.length <= 4611686018427387904) :
  Calls Tryz.prog 192 #[.string (B t), .int .i64 way] w fun e w' => e = .returned (pairV (escN way t)) /\ w' = w := by
 by_cases hs : t.length < 2
 ·have HF := hid (escN_short (way := way) hs)
  go_enter Tryz.func192, Tryz.ntmps192
  go_wp2
  go_ret2
  exact ⟨by rw [HF.out]; rfl, rfl⟩
 have h1 : 1 < t.length := by omega
 have HN := hid (escN_two (way := way) h1)
 have hd : (t.drop 2).length <= 4611686018427387904 := by simp; omega
 by_cases hu : t[1] = 117
 ·have c1 : (t[1].toNat : Int) = 117 := by rw [hu]; rfl
  have HF := hid (HN.out.trans (if_pos hu))
  cases hq : numF (t.drop 2) 4 with
  | none =>
   have N2 := hid (number_none (by decide) hd hq _ rfl 4 rfl)
   have HE := hid (HF.out.trans (by rw [hq]; rfl : _ = ((0 : Int), 0)))
   clear HN hu HF hq hd
   go_enter Tryz.func192, Tryz.ntmps192
   go_wp2_with (go_at_call 228; (with_reducible refine (N2.out _).mono ?_); rintro e w0 ⟨⟨x, rfl⟩, rfl⟩)
   go_ret2
   exact ⟨by rw [HE.out]; rfl, rfl⟩
  | some r =>
   have N2 := hid (number_some (by decide) hd hq _ rfl 4 rfl)
   have HE := hid (HF.out.trans (by rw [hq]; rfl : _ = (r, 6)))
   clear HN hu HF hq hd
   go_enter Tryz.func192, Tryz.ntmps192
   go_wp2_with (go_at_call 228; (with_reducible refine (N2.out _).mono ?_); rintro e w0 ⟨rfl, rfl⟩)
   go_ret2
   exact ⟨by rw [HE.out]; rfl, rfl⟩
 by_cases hv : t[1] = 85
 ·have c1 : (t[1].toNat : Int) = 85 := by rw [hv]; rfl
  have HF := hid (HN.out.trans ((if_neg hu).trans (if_pos hv)))
  cases hq : numF (t.drop 2) 8 with
  | none =>
   have N2 := hid (number_none (by decide) hd hq _ rfl 8 rfl)
   have HE := hid (HF.out.trans (by rw [hq]; rfl : _ = ((0 : Int), 0)))
   clear HN hu hv HF hq hd
   go_enter Tryz.func192, Tryz.ntmps192
   go_wp2_with (go_at_call 228; (with_reducible refine (N2.out _).mono ?_); rintro e w0 ⟨⟨x, rfl⟩, rfl⟩)
   go_ret2
   exact ⟨by rw [HE.out]; rfl, rfl⟩
  | some r =>
   have N2 := hid (number_some (by decide) hd hq _ rfl 8 rfl)
   have HE := hid (HF.out.trans (by rw [hq]; rfl : _ = (r, 10)))
   clear HN hu hv HF hq hd
   go_enter Tryz.func192, Tryz.ntmps192
   go_wp2_with (go_at_call 228; (with_reducible refine (N2.out _).mono ?_); rintro e w0 ⟨rfl, rfl⟩)
   go_ret2
   exact ⟨by rw [HE.out]; rfl, rfl⟩
 have HF := hid (HN.out.trans ((if_neg hu).trans (if_neg hv)))
 have n1 : ((t[1].toNat : Int) == 117) = false := byte_ne (d := 117) hu
 have n2 : ((t[1].toNat : Int) == 85) = false := byte_ne (d := 85) hv
 clear HN hd
 by_cases hw : way = 1
 ·subst hw
  cases hm : meantF t[1] with
  | none =>
   have HE := hid (HF.out.trans ((if_pos rfl).trans (by rw [hm]; rfl : _ = ((0 : Int), 0))))
   have IX := hid (ix_at letS (t[1].toNat : Int) (-1) (let_none _ hm))
   unfold letS at IX
   clear HF hu hv hm
   go_enter Tryz.func192, Tryz.ntmps192
   go_wp2_with (go_at_call 72; (with_reducible refine (IX.out _).mono ?_); rintro e w0 ⟨rfl, rfl⟩)
   go_ret2
   exact ⟨by rw [HE.out]; rfl, rfl⟩
  | some r =>
   have HE := hid (HF.out.trans ((if_pos rfl).trans (by rw [hm]; rfl : _ = (r, 2))))
   have hc := meantF_some hm
   clear HF hu hv hm n1 n2
   rcases hc with ⟨hc, rfl⟩ | ⟨hc, rfl⟩ | ⟨hc, rfl⟩ | ⟨hc, rfl⟩ | ⟨hc, rfl⟩ | ⟨hc, rfl⟩ | ⟨hc, rfl⟩ | ⟨hc, rfl⟩
   ·have c1 : (t[1].toNat : Int) = 116 := by rw [hc]; rfl
    have IX := hid (ix_at letS 116 0 (by decide))
    unfold letS at IX
    clear hc
    go_enter Tryz.func192, Tryz.ntmps192
    go_wp2_with (go_at_call 72; (with_reducible refine (IX.out _).mono ?_); rintro e w0 ⟨rfl, rfl⟩)
    go_ret2
    exact ⟨by rw [HE.out]; exact congrArg (fun z => Ending.returned (.tuple #[.int .i32 z, .int .i64 2])) (by decide +kernel), rfl⟩
   ·have c1 : (t[1].toNat : Int) = 98 := by rw [hc]; rfl
    have IX := hid (ix_at letS 98 1 (by decide))
    unfold letS at IX
    clear hc
    go_enter Tryz.func192, Tryz.ntmps192
    go_wp2_with (go_at_call 72; (with_reducible refine (IX.out _).mono ?_); rintro e w0 ⟨rfl, rfl⟩)
    go_ret2
    exact ⟨by rw [HE.out]; exact congrArg (fun z => Ending.returned (.tuple #[.int .i32 z, .int .i64 2])) (by decide +kernel), rfl⟩
   ·have c1 : (t[1].toNat : Int) = 110 := by rw [hc]; rfl
    have IX := hid (ix_at letS 110 2 (by decide))
    unfold letS at IX
    clear hc
    go_enter Tryz.func192, Tryz.ntmps192
    go_wp2_with (go_at_call 72; (with_reducible refine (IX.out _).mono ?_); rintro e w0 ⟨rfl, rfl⟩)
    go_ret2
    exact ⟨by rw [HE.out]; exact congrArg (fun z => Ending.returned (.tuple #[.int .i32 z, .int .i64 2])) (by decide +kernel), rfl⟩
   ·have c1 : (t[1].toNat : Int) = 114 := by rw [hc]; rfl
    have IX := hid (ix_at letS 114 3 (by decide))
    unfold letS at IX
    clear hc
    go_enter Tryz.func192, Tryz.ntmps192
    go_wp2_with (go_at_call 72; (with_reducible refine (IX.out _).mono ?_); rintro e w0 ⟨rfl, rfl⟩)
    go_ret2
    exact ⟨by rw [HE.out]; exact congrArg (fun z => Ending.returned (.tuple #[.int .i32 z, .int .i64 2])) (by decide +kernel), rfl⟩
   ·have c1 : (t[1].toNat : Int) = 102 := by rw [hc]; rfl
    have IX := hid (ix_at letS 102 4 (by decide))
    unfold letS at IX
    clear hc
    go_enter Tryz.func192, Tryz.ntmps192
    go_wp2_with (go_at_call 72; (with_reducible refine (IX.out _).mono ?_); rintro e w0 ⟨rfl, rfl⟩)
    go_ret2
    exact ⟨by rw [HE.out]; exact congrArg (fun z => Ending.returned (.tuple #[.int .i32 z, .int .i64 2])) (by decide +kernel), rfl⟩
   ·have c1 : (t[1].toNat : Int) = 34 := by rw [hc]; rfl
    have IX := hid (ix_at letS 34 5 (by decide))
    unfold letS at IX
    clear hc
    go_enter Tryz.func192, Tryz.ntmps192
    go_wp2_with (go_at_call 72; (with_reducible refine (IX.out _).mono ?_); rintro e w0 ⟨rfl, rfl⟩)
    go_ret2
    exact ⟨by rw [HE.out]; exact congrArg (fun z => Ending.returned (.tuple #[.int .i32 z, .int .i64 2])) (by decide +kernel), rfl⟩
   ·have c1 : (t[1].toNat : Int) = 39 := by rw [hc]; rfl
    have IX := hid (ix_at letS 39 6 (by decide))
    unfold letS at IX
    clear hc
    go_enter Tryz.func192, Tryz.ntmps192
    go_wp2_with (go_at_call 72; (with_reducible refine (IX.out _).mono ?_); rintro e w0 ⟨rfl, rfl⟩)
    go_ret2
    exact ⟨by rw [HE.out]; exact congrArg (fun z => Ending.returned (.tuple #[.int .i32 z, .int .i64 2])) (by decide +kernel), rfl⟩
   ·have c1 : (t[1].toNat : Int) = 92 := by rw [hc]; rfl
    have IX := hid (ix_at letS 92 7 (by decide))
    unfold letS at IX
    clear hc
    go_enter Tryz.func192, Tryz.ntmps192
    go_wp2_with (go_at_call 72; (with_reducible refine (IX.out _).mono ?_); rintro e w0 ⟨rfl, rfl⟩)
    go_ret2
    exact ⟨by rw [HE.out]; exact congrArg (fun z => Ending.returned (.tuple #[.int .i32 z, .int .i64 2])) (by decide +kernel), rfl⟩
 ·have HE := hid (HF.out.trans (if_neg hw))
  have ew : (way == 1) = false := beq_eq_false_iff_ne.2 hw
  obtain ⟨k, hk⟩ : ∃ k, Lib.indexByte letS.data.toList ((t[1].toNat : Int).toNat.toUInt8) = k := ⟨_, rfl⟩
  have IX := hid (ix_at letS (t[1].toNat : Int) k hk)
  unfold letS at IX
  clear HF hu hv hw hk
  by_cases hk : 0 <= k
  ·go_enter Tryz.func192, Tryz.ntmps192
   go_wp2_with (go_at_call 72; (with_reducible refine (IX.out _).mono ?_); rintro e w0 ⟨rfl, rfl⟩)
   go_ret2
   exact ⟨by rw [HE.out]; rfl, rfl⟩
  ·go_enter Tryz.func192, Tryz.ntmps192
   go_wp2_with (go_at_call 72; (with_reducible refine (IX.out _).mono ?_); rintro e w0 ⟨rfl, rfl⟩)
   go_ret2
   exact ⟨by rw [HE.out]; rfl, rfl⟩
end Go.Proofs.YtdhmpakhdhdebaaGreatDoor
namespace Go.Proofs.YtdhmpakhdhdebaaGreatDoor
open Go.Lib (hid)
open Go.RowKit
set_option maxRecDepth 100000
theorem utfWrong_l (p n : Int) (w : World) : Calls Tryz.prog 117 #[.int .i64 p, .int .i64 n] w fun e w' => e = .returned (.iface 91 (.pointer (some ⟨w.heap.size, 0, none⟩))) /\ w' = w.alloc (.cells #[.int .i64 p, .iface 74 (.int .i64 n)] 95) := by
 go_enter Tryz.func117, Tryz.ntmps117
 go_wp2
 go_ret
 exact ⟨rfl, rfl⟩
end Go.Proofs.YtdhmpakhdhdebaaGreatDoor
namespace Go.Proofs.YtdhmpakhdhdebaaGreatDoor
open Go.Lib (hid)
open Go.RowKit
set_option maxRecDepth 100000
theorem copyCheckC_any (B_ b : Nat) (bs : List Value) (w : World) (h : Lib.IsBuilder 117 5 B_ b bs w) :
  Calls Tryz.prog 80 #[.pointer (some ⟨b, 0, none⟩)] w fun e w' => e = .returned (.tuple #[]) /\ Lib.BuilderAt 117 5 B_ b (.pointer (some ⟨b, 0, none⟩)) bs w' /\ Below B_ w w' /\ Lib.OthersKept 5 (some b) w w' /\ ∀ p : Addr, p.block ≠ b -> w'.cell? p = w.cell? p := by
 rcases h with h | h
 ·refine (copyCheck_fresh b w h.cell0 h.shape h.frozen0).mono ?_
  rintro e w' ⟨he, rfl⟩
  exact ⟨he, h.used _, (Below.refl _ _).setCell h.1 _, Lib.OthersKept.setCell (b := b) (Lib.OthersKept.refl _ _ _) ⟨b, 0, none⟩ rfl _, fun p hp => World.cell?_setCell_other _ _ _ _ (fun e => hp (by rw [<- e]))⟩
 ·refine (copyCheck_used b w h.cell0).mono ?_
  rintro e w' ⟨he, rfl⟩
  exact ⟨he, h, Below.refl _ _, Lib.OthersKept.refl _ _ _, fun _ _ => rfl⟩
theorem at_of {w w1 : World} {g o : Nat} {xs : List Value} (h : At w (some ⟨g, o, none⟩) xs) (hk : ∀ p : Addr, p.block = g -> w1.cell? p = w.cell? p) : At w1 (some ⟨g, o, none⟩) xs := fun j hj =>
 ⟨g, o, rfl, (hk ⟨g, o + j, none⟩ rfl).trans (h.get hj)⟩
theorem news_at {w : World} {g o : Nat} {xs : List Value} (h : At w (some ⟨g, o, none⟩) xs) : ∀ j u, xs[j]? = some u -> w.cell? ((⟨g, o, none⟩ : Addr).add j) = some u := by
 intro j u hu
 obtain ⟨hj, rfl⟩ := List.getElem?_eq_some_iff.1 hu
 rw [addO]
 exact h.get hj
theorem one_u8 (m : List UInt8) : ∀ u ∈ m.map U8, u.oneCell' = true := by
 intro u hu
 obtain ⟨c, _, rfl⟩ := List.mem_map.1 hu
 rfl
set_option maxHeartbeats 800000 in
theorem writeBytes_l (B_ b g o c : Nat) (l m : List UInt8) (w : World) (h : BuildsB w B_ b l) (ha : At w (some ⟨g, o, none⟩) (m.map U8)) (hg : g ≠ b) (hlen : l.length + m.length <= 140737488355328) (hBw : B_ <= w.heap.size) :
  Calls Tryz.prog 193 #[.pointer (some ⟨b, 0, none⟩), .slice (some ⟨g, o, none⟩) m.length c] w fun e w' => e = .returned (.tuple #[.int .i64 m.length, .nilIface]) /\ BuildsB w' B_ b (l ++ m) /\ Below B_ w w' /\ Lib.OthersKept 5 (some b) w w' := by
 obtain ⟨i0, hi, hz0, hz1, hz2⟩ := info_parts infoByte
 have CC := hid (copyCheckC_any B_ b (l.map U8) w h)
 clear h
 go_enter Tryz.func193, Tryz.ntmps193
 go_wp2_with (first | (go_at_call 80; refine CC.out.mono ?_; rintro e w1 ⟨rfl, ⟨hB, v, hbk, hown, hne⟩, hb1, hk1, hcc⟩; have HA1 := hid (at_of ha (fun p hp => hcc p (by rw [hp]; exact hg))); clear hcc; have c1 : w1.cell? ⟨b, 1, none⟩ = some v := (Lib.cell_of_heap hbk 1).trans rfl; have HBK := hid hbk; have HNE := hid hne; clear hbk hne) | (at_builtin; refine wpList_append_own _ rfl (.tmp 12) (.tmp 13) 35 rfl B_ 5 i0 (.int .u8 0) 1 1 Tryz.underlying35 hi hz0 hz1 hz2 rfl (by decide) _ _ _ rfl hown ⟨g, o, none⟩ m.length c (m.map U8) rfl (by simp) (news_at HA1.out) (one_u8 m) ?c3 ?c4 ?c5 ?_))
 case c3 => simp; unfold maxLen; omega
 case c4 => simp; omega
 case c5 => have := hb1.size; omega
 intro v' w2 hown' hgrow _
 have hlt : b < w1.heap.size := World.block_lt_of_cell? _ _ c1
 have hb2 : w2.heap[b]? = some (.cells #[.pointer (some ⟨b, 0, none⟩), v] 117 (0, 0)) := by
  rw [hgrow.block b hlt (fun e => HNE.out e.symm)]
  exact HBK.out
 have d1 : w2.cell? ⟨b, 1, none⟩ = some v := (Lib.cell_of_heap hb2 1).trans rfl
 have f1 : w2.frozen? ⟨b, 1, none⟩ = false := Lib.frozen_of_heap hb2 1
 have hput : ∀ x, w2.ownsRow B_ 5 1 x ((l ++ m).map U8).length ((l ++ m).map U8) -> Lib.BuilderAt 117 5 B_ b (.pointer (some ⟨b, 0, none⟩)) ((l ++ m).map U8) (w2.setCell ⟨b, 1, none⟩ x) := fun x hx => Lib.BuilderAt.put hB hb2 hx (by decide)
 have hown2 : w2.ownsRow B_ 5 1 v' ((l ++ m).map U8).length ((l ++ m).map U8) := by
  simpa using hown'
 have HP := hid (hput v' hown2)
 have hbw : Below B_ w (w2.setCell ⟨b, 1, none⟩ v') := (hb1.grown hgrow (by have := hb1.size; omega) (fun k hk => (hown.lt k hk).1)).setCell (p := ⟨b, 1, none⟩) hB _
 have HBW := hid hbw
 have HKK : Hid (Lib.OthersKept 5 (some b) w (w2.setCell ⟨b, 1, none⟩ v')) := hid ((hk1.grown hgrow (ownsRow_kind hown)).setCell _ rfl _)
 obtain ⟨ao, n', cap, hv'⟩ : ∃ ao n' cap, v' = .slice ao n' cap := by
  rcases hown2.2 with ⟨hv, _⟩ | ⟨g, cap, cur, hv, _⟩
  ·exact ⟨_, _, _, hv⟩
  ·exact ⟨_, _, _, hv⟩
 clear hk1 hown hown' hown2 hput hb2 hbw hgrow HBK HNE c1
 rw [hv'] at HP HBW HKK ⊢
 clear hv'
 go_wp2_with fail
 go_ret2
 exact ⟨rfl, .inr HP.out, HBW.out, HKK.out⟩
end Go.Proofs.YtdhmpakhdhdebaaGreatDoor
namespace Go.Proofs.YtdhmpakhdhdebaaGreatDoor
open Go.Lib (hid)
open Go.RowKit
set_option maxRecDepth 100000
theorem atF_esc {way : Int} {l : List UInt8} {j : Nat} (h : j < l.length) (hc : l[j] = 92) : atF way l j = (escN way (l.drop j), 41) := by
 unfold atF
 rw [show l.getD j 0 = l[j] by simp [List.getD, h], if_pos hc]
theorem atF_plain {way : Int} {l : List UInt8} {j : Nat} (h : j < l.length) (hc : l[j] ≠ 92) : atF way l j = (nextAt l j, 40) := by
 unfold atF
 rw [show l.getD j 0 = l[j] by simp [List.getD, h], if_neg hc]
theorem BuildsB.lt {w : World} {B_ b : Nat} {l : List UInt8} (h : BuildsB w B_ b l) : b < w.heap.size := h.elim (fun x => x.lt) (fun x => x.lt)
set_option maxHeartbeats 3200000 in
theorem unescape_l (way : Int) (l : List UInt8) (w : World) (hl : l.length <= 16777216) :
  Calls Tryz.prog 142 #[.string (B l), .int .i64 way] w fun e w' => LocPost w' e (unescF way l 0) /\ Below w.heap.size w w' := by
 have NX := hid (fun (j : Nat) (hj : j < l.length) (v : Int) (n : Nat) (h : nextAt l j = (v, n)) (u : World) => h ▸ next_l l j u (by omega) (by omega))
 have ES := hid (fun (j : Nat) (v : Int) (n : Nat) (h : escN way (l.drop j) = (v, n)) (u : World) => h ▸ escape_l way (l.drop j) u (by simp; omega))
 have BY := hid (fun (v : Int) (h0 : 0 <= v) (h1 : v <= 1114111) (u : World) => utfBytes_l v u h0 h1)
 have WS := hid writeString_l
 have WB := hid writeBytes_l
 have ST := hid builderString_l
 have WRO := hid utfWrong_l
 go_enter Tryz.func142, Tryz.ntmps142
 go_wp2_with fail
 go_loopw [7] (fun i wr => ∃ (j : Nat) (acc : List UInt8), i = .int .i64 j /\ j <= l.length /\ acc.length <= 4 * j /\ Hid (unescF way l 0 = putF acc (unescF way l j)) /\ Hid (BuildsB wr w.heap.size w.heap.size acc) /\ Hid (Below w.heap.size w wr)) (fun i _ => l.length - (intOf i).toNat)
 case atStart => exact ⟨0, [], rfl, Nat.zero_le _, Nat.le_refl _, hid (putF_nil _).symm, hid (Lib.fresh_isBuilder _ _ _), hid ((Below.refl _ _).alloc (Nat.le_refl _) _)⟩
 case round =>
  obtain ⟨j, acc, rfl, hj, hacc, HS, HB, HW⟩ := hrel
  by_cases hlt : j < l.length
  ·by_cases hc : l[j] = 92
   ·have c0 : ((l[j].toNat : Int) == 92) = true := by rw [hc]; rfl
    obtain ⟨v, n, hq⟩ : ∃ v n, escN way (l.drop j) = (v, n) := ⟨_, _, rfl⟩
    have hat : atF way l j = ((v, n), 41) := by rw [atF_esc hlt hc, hq]
    have N2 := hid (ES.out j v n hq)
    by_cases hn : n = 0
    ·have HE : Hid (unescF way l 0 = .inr (j, 41)) := hid (by rw [HS.out, unescF_bad hlt (hn ▸ hat)]; rfl)
     have e0 : ((n : Int) == 0) = true := by rw [hn]; rfl
     clear hc hq hat hn HS
     go_wp2_with (first | (go_at_call 192; (with_reducible refine (N2.out _).mono ?_); rintro e w1 ⟨rfl, rfl⟩; unfold pairV) | (go_at_call 117; refine (WRO.out _ _ _).mono ?_; rintro e w4 ⟨rfl, rfl⟩))
     go_ret2
     exact ⟨locPost_bad HE.out, HW.out.alloc HW.out.size _⟩
    ·have e0 : ((n : Int) == 0) = false := beq_eq_false_iff_ne.2 (by omega)
     have hbd := escN_bound hq hn
     have hv := scal_nonneg hbd.2
     have hjn : j + n <= l.length := by have := hbd.1; simp at this; omega
     have HE : Hid (unescF way l 0 = putF (acc ++ byU v) (unescF way l (j + n))) := hid (by rw [HS.out, unescF_go hlt hat hn, putF_put])
     have B2 := hid (fun u => BY.out v hv.1 hv.2.1 u)
     have hb4 := byU_len v
     have h0n : 0 < n := by omega
     have hlx : acc.length + (byU v).length <= 140737488355328 := by omega
     have HL : Hid (acc.length + (byU v).length <= 4 * (j + n)) := hid (by omega)
     clear hc hq hat hn HS hbd hv hb4 BY
     go_wp2_with (first
      | (go_at_call 192; (with_reducible refine (N2.out _).mono ?_); rintro e w1 ⟨rfl, rfl⟩; unfold pairV)
      | (go_at_call 169; (with_reducible refine (B2.out _).mono ?_); rintro e w2 ⟨cp, rfl, ha, hb2⟩; have HA := hid (bytesU_cells v ▸ ha); have HB2 := hid (HB.out.below hb2); have HW2 := hid (HW.out.trans (hb2.mono HW.out.size)); have HNE := hid (Nat.ne_of_gt HB.out.lt); rw [<- bytesU_length]; clear ha hb2)
      | (go_at_call 193; (refine (WB.out _ _ _ _ _ acc (byU v) _ HB2.out HA.out HNE.out ?c1 HW2.out.size).mono ?_); rotate_left; rintro e w4 ⟨rfl, h1, h2, h3⟩; have HB4 := hid h1; have HW4 := hid (HW2.out.trans h2); clear h1 h2 h3))
     case c1 => exact hlx
     go_roundw
     case rel => exact ⟨j + n, acc ++ byU v, by go_num, hjn, by have := HL.out; simp; omega, HE, HB4, HW4⟩
     case measure => simp [intOf]; omega
   ·have c0 : ((l[j].toNat : Int) == 92) = false := byte_ne (d := 92) hc
    obtain ⟨v, n, hq⟩ : ∃ v n, nextAt l (j : Int) = (v, n) := ⟨_, _, rfl⟩
    have hat : atF way l j = ((v, n), 40) := by rw [atF_plain hlt hc, hq]
    have N2 := hid (NX.out j hlt v n hq)
    by_cases hn : n = 0
    ·have HE : Hid (unescF way l 0 = .inr (j, 40)) := hid (by rw [HS.out, unescF_bad hlt (hn ▸ hat)]; rfl)
     have e0 : ((n : Int) == 0) = true := by rw [hn]; rfl
     clear hc hq hat hn HS
     go_wp2_with (first | (go_at_call 40; (with_reducible refine (N2.out _).mono ?_); rintro e w1 ⟨rfl, rfl⟩; unfold pairV) | (go_at_call 117; refine (WRO.out _ _ _).mono ?_; rintro e w4 ⟨rfl, rfl⟩))
     go_ret2
     exact ⟨locPost_bad HE.out, HW.out.alloc HW.out.size _⟩
    ·have e0 : ((n : Int) == 0) = false := beq_eq_false_iff_ne.2 (by omega)
     have hbd := nextAt_bound hq hn
     have hjn : j + n <= l.length := by omega
     have hby := (nextAt_bytes hq hn).1
     have hsub : j + n - j = n := by omega
     have HE : Hid (unescF way l 0 = putF (acc ++ (l.drop j).take n) (unescF way l (j + n))) := hid (by rw [HS.out, unescF_go hlt hat hn, putF_put, hby])
     have h0n : 0 < n := by omega
     have hb4 : ((l.drop j).take n).length <= 4 := hby ▸ byU_len v
     obtain ⟨x, hx⟩ : ∃ x, (l.drop j).take n = x := ⟨_, rfl⟩
     rw [hx] at HE hb4
     have hlx : acc.length + x.length <= 140737488355328 := by omega
     have HL : Hid (acc.length + x.length <= 4 * (j + n)) := hid (by omega)
     clear hc hq hat hn HS hbd hby hb4
     go_wp2_with (first
      | (go_at_call 40; (with_reducible refine (N2.out _).mono ?_); rintro e w1 ⟨rfl, rfl⟩; unfold pairV)
      | (go_at_call 48; (refine (WS.out _ _ acc x _ HB.out ?c1 HW.out.size).mono ?_); rotate_left; rintro e w4 ⟨rfl, h1, h2⟩; have HB4 := hid h1; have HW4 := hid (HW.out.trans h2); clear h1 h2))
     case c1 => exact hlx
     go_roundw
     case rel => exact ⟨j + n, acc ++ x, by go_num, hjn, by have := HL.out; simp; omega, HE, HB4, HW4⟩
     case measure => simp [intOf]; omega
  ·obtain rfl : j = l.length := by omega
   have HE : Hid (unescF way l 0 = .inl acc) := hid (by rw [HS.out, unescF_end (Nat.le_refl _)]; simp [putF])
   clear HS
   go_wp2_with (go_at_call 50; refine (ST.out _ _ acc _ HB.out HW.out.size).mono ?_; rintro e w4 ⟨rfl, hb4⟩; have HW4 := hid (HW.out.trans hb4); clear hb4)
   go_ret2
   exact ⟨⟨_, by rw [HE.out]; rfl, by rw [HE.out]; rfl⟩, HW4.out⟩
end Go.Proofs.YtdhmpakhdhdebaaGreatDoor
namespace Go.Proofs.YtdhmpakhdhdebaaGreatDoor
open Go.Lib (hid)
open Go.RowKit
set_option maxRecDepth 100000
theorem grown_drewN {w w' : World} {row : Option Nat} (h : w.grownBy w' row) (n : Nat) : w.grownBy (w'.drewN n) row := ⟨h.os, h.tape, h.output, h.size, h.block⟩
theorem grownR_trans {w v u : World} {r : Option Nat} (h : w.grownBy v r) (h2 : v.grownBy u r) : w.grownBy u r :=
 ⟨h2.1.trans h.1, h2.2.trans h.2, h2.3.trans h.3, Nat.le_trans h.4 h2.4, fun b hb hn => (h2.5 b (Nat.lt_of_lt_of_le hb h.4) hn).trans (h.5 b hb hn)⟩
theorem grownBy_setCell1 (w : World) (b o : Nat) (v : Value) : w.grownBy (w.setCell ⟨b, o, none⟩ v) (some b) := by
 refine ⟨rfl, rfl, rfl, by simp, fun k hk hn => ?_⟩
 exact RowKit.Below.heap_setCell _ _ _ _ (fun e => hn (by rw [e]))
end Go.Proofs.YtdhmpakhdhdebaaGreatDoor
