/-
  The reference's piece: contract. By an AI agent.
-/
import Derived.Test.YtfjcbodkjjmagaaDoorPiece
namespace Go.Proofs.YtfjcbodkjjmagaaDoor
open Go.RowKit
set_option maxRecDepth 100000

/-- what the reference's piece answers: what it says, how many bytes, the scalar -/
def refPieceF (l : List UInt8) (j : Nat) : List UInt8 × Nat × Int :=
  if percB (l.drop j) = true then ((l.drop j).take 3, 3, -1)
  else if esc2 (l.drop j) = true then ((l.drop (j + 1)).take 1, 2, -1)
  else if (nextAt l j).2 = 0 ∨ (nextAt l j).1 = 37 ∨ (nextAt l j).1 = 92 then ([], 0, 0)
  else ((l.drop j).take (nextAt l j).2, (nextAt l j).2, (nextAt l j).1)
def refPieceV (j : Nat) (p : List UInt8 × Nat × Int) : Value := .agg #[.int .i64 (j : Int), .int .i64 (p.2.1 : Int), .string (B p.1), .int .i64 p.2.2]
theorem wrap64_byte (b : UInt8) : wrap64 (b.toNat : Int) = (b.toNat : Int) := by have := b.toNat_lt; unfold wrap64; omega
attribute [go_sem] wrap64_byte
theorem refPieceV_mk {j : Nat} {p : List UInt8 × Nat × Int} {t : List UInt8} {n : Nat} {r : Int} (h : p = (t, n, r)) : Ending.returned (.agg #[.int .i64 (j : Int), .int .i64 (n : Int), .string (B t), .int .i64 r]) = .returned (refPieceV j p) := by rw [h]; rfl
theorem refPieceV_0 {j : Nat} {p : List UInt8 × Nat × Int} (h : p = ([], 0, 0)) : Ending.returned (.agg #[.int .i64 (j : Int), .int .i64 0, .string ⟨#[]⟩, .int .i64 0]) = .returned (refPieceV j p) := by rw [h]; rfl

set_option maxHeartbeats 1600000 in
theorem refPiece_l (l : List UInt8) (j : Nat) (w : World) (hl : l.length ≤ 140737488351232) (hj : j < l.length) :
    Calls Tryd.prog 63 #[.string (B l), .int .i64 (j : Int)] w fun e w' => e = .returned (refPieceV j (refPieceF l j)) ∧ Below w.heap.size w w' := by
  have PER0 : ∀ w, Calls Tryd.prog 55 #[.string (B l), .int .i64 (j : Int)] w fun e w' => e = .returned (.bool (percB (l.drop j))) ∧ w' = w := fun w => refPercent_l l j w (by omega) (by omega)
  have ESC := Lib.hid escapable_any
  obtain ⟨v, n, hq⟩ : ∃ v n, nextAt l (j : Int) = (v, n) := ⟨_, _, rfl⟩
  have NX := Lib.hid (fun w => hq ▸ refNext_l l j w (by omega) (by omega))
  have hP : refPieceF l j = if percB (l.drop j) = true then ((l.drop j).take 3, 3, -1) else if esc2 (l.drop j) = true then ((l.drop (j + 1)).take 1, 2, -1) else if n = 0 ∨ v = 37 ∨ v = 92 then ([], 0, 0) else ((l.drop j).take n, n, v) := by unfold refPieceF; rw [hq]
  have HB : Hid (∀ w3, Below (w.alloc (.cells #[.int .i64 0, .int .i64 0, .string ⟨#[]⟩, .int .i64 0] 85)).heap.size (w.alloc (.cells #[.int .i64 0, .int .i64 0, .string ⟨#[]⟩, .int .i64 0] 85)) w3 → Below w.heap.size w w3) := Lib.hid (fun w3 h => ((Below.refl w.heap.size w).alloc (Nat.le_refl _) _).trans (h.mono (by simp)))
  have HC : Hid (∀ w3, Below (w.alloc (.cells #[.int .i64 0, .int .i64 0, .string ⟨#[]⟩, .int .i64 0] 85)).heap.size (w.alloc (.cells #[.int .i64 0, .int .i64 0, .string ⟨#[]⟩, .int .i64 0] 85)) w3 → ∀ (k : Nat) (x : Value), (#[.int .i64 0, .int .i64 0, .string ⟨#[]⟩, .int .i64 0] : Array Value)[k]? = some x → w3.cell? ⟨w.heap.size, k, none⟩ = some x) := Lib.hid (fun w3 h k x hx => by rw [h.cell (p := ⟨w.heap.size, k, none⟩) (by simp), World.cell?_alloc_new]; exact hx)
  have HF : Hid (∀ w3, Below (w.alloc (.cells #[.int .i64 0, .int .i64 0, .string ⟨#[]⟩, .int .i64 0] 85)).heap.size (w.alloc (.cells #[.int .i64 0, .int .i64 0, .string ⟨#[]⟩, .int .i64 0] 85)) w3 → w3.frozen? ⟨w.heap.size, 0, none⟩ = false ∧ w3.frozen? ⟨w.heap.size, 1, none⟩ = false ∧ w3.frozen? ⟨w.heap.size, 2, none⟩ = false ∧ w3.frozen? ⟨w.heap.size, 3, none⟩ = false) := Lib.hid (fun w3 h => by refine ⟨?_, ?_, ?_, ?_⟩ <;> (rw [h.frozen (by simp)]; simp))
  cases hp : percB (l.drop j) with
  | true =>
    rw [hp, if_pos rfl] at hP
    rw [hp] at PER0
    have PER := Lib.hid PER0
    have HE := Lib.hid hP
    have h3 := percB_len hp
    rw [List.length_drop] at h3
    have hj3 : j + 3 ≤ l.length := by omega
    have hs : j + 3 - j = 3 := by omega
    clear PER0 hP hp hq h3
    go_enter Tryd.func63, Tryd.ntmps63
    go_wp2_with (first | (go_at_call 55; refine (PER.out _).mono ?_; rintro e w1 ⟨rfl, rfl⟩) | (go_at_call 57; refine (ESC.out _ _).mono ?_; rintro e w2 ⟨rfl, rfl⟩) | (go_at_call 41; refine (NX.out _).mono ?_; rintro e w3 ⟨rfl, hx3⟩; unfold pairI; have hb := HB.out _ hx3; have c0 := HC.out _ hx3 0 _ rfl; have c1 := HC.out _ hx3 1 _ rfl; have c2 := HC.out _ hx3 2 _ rfl; have c3 := HC.out _ hx3 3 _ rfl; obtain ⟨f0, f1, f2, f3⟩ := HF.out _ hx3; clear hx3) | fail)
    rw [hs]
    refine bodyPost_ret (v := .agg #[.int .i64 (j : Int), .int .i64 3, .string (B ((l.drop j).take 3)), .int .i64 (-1)]) (by simp [results, Tryd.results63, go_sem]) rfl ?_
    exact ⟨refPieceV_mk HE.out, (Below.refl w.heap.size w).alloc (Nat.le_refl _) _⟩
  | false =>
    rw [hp, if_neg (by simp)] at hP
    rw [hp] at PER0
    have PER := Lib.hid PER0
    clear PER0 hp
    obtain ⟨a, t, hd⟩ : ∃ a t, l.drop j = a :: t := by
      cases h : l.drop j with
      | nil => have := congrArg List.length h; simp at this; omega
      | cons a t => exact ⟨a, t, rfl⟩
    have ha0 := drop_get hd hj
    have hlen := drop_len hd
    by_cases ha : a = 92
    · have e1 : ((a.toNat : Int) == 92) = true := byte_eq ha
      have hlow := nextAt_low hd (by rw [ha]; decide)
      rw [hq] at hlow
      have hv : v = 92 := by have := (Prod.mk.inj hlow).1; rw [this, ha]; rfl
      have hn : n = 1 := (Prod.mk.inj hlow).2
      subst hv hn
      rcases t with _ | ⟨b, t⟩
      · have h1 : ¬ j + 1 < l.length := by simp at hlen; omega
        rw [hd, show esc2 [a] = false from rfl, if_neg (by simp), if_pos (.inr (.inr rfl))] at hP
        have HE := Lib.hid hP
        clear hP hq hlow hd hlen ha
        go_enter Tryd.func63, Tryd.ntmps63
        go_wp2_with (first | (go_at_call 55; refine (PER.out _).mono ?_; rintro e w1 ⟨rfl, rfl⟩) | (go_at_call 57; refine (ESC.out _ _).mono ?_; rintro e w2 ⟨rfl, rfl⟩) | (go_at_call 41; refine (NX.out _).mono ?_; rintro e w3 ⟨rfl, hx3⟩; unfold pairI; have hb := HB.out _ hx3; have c0 := HC.out _ hx3 0 _ rfl; have c1 := HC.out _ hx3 1 _ rfl; have c2 := HC.out _ hx3 2 _ rfl; have c3 := HC.out _ hx3 3 _ rfl; obtain ⟨f0, f1, f2, f3⟩ := HF.out _ hx3; clear hx3) | fail)
        refine bodyPost_ret (v := .agg #[.int .i64 (j : Int), .int .i64 0, .string ⟨#[]⟩, .int .i64 0]) (by simp [results, Tryd.results63, go_sem, c0, c1, c2, c3]) rfl ?_
        exact ⟨refPieceV_0 HE.out, (((hb.setCell (Nat.le_refl _) _).setCell (Nat.le_refl _) _).setCell (Nat.le_refl _) _).setCell (Nat.le_refl _) _⟩
      have h1 : j + 1 < l.length := by simp at hlen; omega
      have hb0 := drop_get1 hd h1
      cases he : escB (b.toNat : Int) with
      | true =>
        rw [hd, show esc2 (a :: b :: t) = (decide (a = 92) && escB (b.toNat : Int)) from rfl, decide_eq_true ha, he, Bool.true_and, if_pos rfl] at hP
        have HE := Lib.hid hP
        have h2 : j + 2 ≤ l.length := by omega
        have hs : j + 2 - (j + 1) = 1 := by omega
        clear hP hq hlow hd hlen ha
        go_enter Tryd.func63, Tryd.ntmps63
        go_wp2_with (first | (go_at_call 55; refine (PER.out _).mono ?_; rintro e w1 ⟨rfl, rfl⟩) | (go_at_call 57; refine (ESC.out _ _).mono ?_; rintro e w2 ⟨rfl, rfl⟩) | (go_at_call 41; refine (NX.out _).mono ?_; rintro e w3 ⟨rfl, hx3⟩; unfold pairI; have hb := HB.out _ hx3; have c0 := HC.out _ hx3 0 _ rfl; have c1 := HC.out _ hx3 1 _ rfl; have c2 := HC.out _ hx3 2 _ rfl; have c3 := HC.out _ hx3 3 _ rfl; obtain ⟨f0, f1, f2, f3⟩ := HF.out _ hx3; clear hx3) | fail)
        rw [hs]
        refine bodyPost_ret (v := .agg #[.int .i64 (j : Int), .int .i64 2, .string (B ((l.drop (j + 1)).take 1)), .int .i64 (-1)]) (by simp [results, Tryd.results63, go_sem]) rfl ?_
        exact ⟨refPieceV_mk HE.out, (Below.refl w.heap.size w).alloc (Nat.le_refl _) _⟩
      | false =>
        rw [hd, show esc2 (a :: b :: t) = (decide (a = 92) && escB (b.toNat : Int)) from rfl, he, Bool.and_false, if_neg (by simp), if_pos (.inr (.inr rfl))] at hP
        have HE := Lib.hid hP
        clear hP hq hlow hd hlen ha
        go_enter Tryd.func63, Tryd.ntmps63
        go_wp2_with (first | (go_at_call 55; refine (PER.out _).mono ?_; rintro e w1 ⟨rfl, rfl⟩) | (go_at_call 57; refine (ESC.out _ _).mono ?_; rintro e w2 ⟨rfl, rfl⟩) | (go_at_call 41; refine (NX.out _).mono ?_; rintro e w3 ⟨rfl, hx3⟩; unfold pairI; have hb := HB.out _ hx3; have c0 := HC.out _ hx3 0 _ rfl; have c1 := HC.out _ hx3 1 _ rfl; have c2 := HC.out _ hx3 2 _ rfl; have c3 := HC.out _ hx3 3 _ rfl; obtain ⟨f0, f1, f2, f3⟩ := HF.out _ hx3; clear hx3) | fail)
        refine bodyPost_ret (v := .agg #[.int .i64 (j : Int), .int .i64 0, .string ⟨#[]⟩, .int .i64 0]) (by simp [results, Tryd.results63, go_sem, c0, c1, c2, c3]) rfl ?_
        exact ⟨refPieceV_0 HE.out, (((hb.setCell (Nat.le_refl _) _).setCell (Nat.le_refl _) _).setCell (Nat.le_refl _) _).setCell (Nat.le_refl _) _⟩
    have e1 : ((a.toNat : Int) == 92) = false := byte_ne ha
    have hes : esc2 (l.drop j) = false := by
      cases h : esc2 (l.drop j) with
      | false => rfl
      | true => obtain ⟨b, t', e, _⟩ := esc2_front h; rw [hd] at e; cases e; exact absurd rfl ha
    rw [hes, if_neg (by simp)] at hP
    by_cases hn : n = 0
    · have e0 : ((n : Int) == 0) = true := by rw [hn]; rfl
      rw [if_pos (.inl hn)] at hP
      have HE := Lib.hid hP
      clear hP hq hn hd hlen ha hes
      go_enter Tryd.func63, Tryd.ntmps63
      go_wp2_with (first | (go_at_call 55; refine (PER.out _).mono ?_; rintro e w1 ⟨rfl, rfl⟩) | (go_at_call 57; refine (ESC.out _ _).mono ?_; rintro e w2 ⟨rfl, rfl⟩) | (go_at_call 41; refine (NX.out _).mono ?_; rintro e w3 ⟨rfl, hx3⟩; unfold pairI; have hb := HB.out _ hx3; have c0 := HC.out _ hx3 0 _ rfl; have c1 := HC.out _ hx3 1 _ rfl; have c2 := HC.out _ hx3 2 _ rfl; have c3 := HC.out _ hx3 3 _ rfl; obtain ⟨f0, f1, f2, f3⟩ := HF.out _ hx3; clear hx3) | fail)
      refine bodyPost_ret (v := .agg #[.int .i64 (j : Int), .int .i64 0, .string ⟨#[]⟩, .int .i64 0]) (by simp [results, Tryd.results63, go_sem, c0, c1, c2, c3]) rfl ?_
      exact ⟨refPieceV_0 HE.out, (((hb.setCell (Nat.le_refl _) _).setCell (Nat.le_refl _) _).setCell (Nat.le_refl _) _).setCell (Nat.le_refl _) _⟩
    have e0 : ((n : Int) == 0) = false := beq_eq_false_iff_ne.2 (by omega)
    by_cases h37 : v = 37
    · have e2 : (v == 37) = true := beq_iff_eq.2 h37
      rw [if_pos (.inr (.inl h37))] at hP
      have HE := Lib.hid hP
      clear hP hq hn hd hlen ha hes h37
      go_enter Tryd.func63, Tryd.ntmps63
      go_wp2_with (first | (go_at_call 55; refine (PER.out _).mono ?_; rintro e w1 ⟨rfl, rfl⟩) | (go_at_call 57; refine (ESC.out _ _).mono ?_; rintro e w2 ⟨rfl, rfl⟩) | (go_at_call 41; refine (NX.out _).mono ?_; rintro e w3 ⟨rfl, hx3⟩; unfold pairI; have hb := HB.out _ hx3; have c0 := HC.out _ hx3 0 _ rfl; have c1 := HC.out _ hx3 1 _ rfl; have c2 := HC.out _ hx3 2 _ rfl; have c3 := HC.out _ hx3 3 _ rfl; obtain ⟨f0, f1, f2, f3⟩ := HF.out _ hx3; clear hx3) | fail)
      refine bodyPost_ret (v := .agg #[.int .i64 (j : Int), .int .i64 0, .string ⟨#[]⟩, .int .i64 0]) (by simp [results, Tryd.results63, go_sem, c0, c1, c2, c3]) rfl ?_
      exact ⟨refPieceV_0 HE.out, (((hb.setCell (Nat.le_refl _) _).setCell (Nat.le_refl _) _).setCell (Nat.le_refl _) _).setCell (Nat.le_refl _) _⟩
    have e2 : (v == 37) = false := beq_eq_false_iff_ne.2 h37
    by_cases h92 : v = 92
    · have e3 : (v == 92) = true := beq_iff_eq.2 h92
      rw [if_pos (.inr (.inr h92))] at hP
      have HE := Lib.hid hP
      clear hP hq hn hd hlen ha hes h37 h92
      go_enter Tryd.func63, Tryd.ntmps63
      go_wp2_with (first | (go_at_call 55; refine (PER.out _).mono ?_; rintro e w1 ⟨rfl, rfl⟩) | (go_at_call 57; refine (ESC.out _ _).mono ?_; rintro e w2 ⟨rfl, rfl⟩) | (go_at_call 41; refine (NX.out _).mono ?_; rintro e w3 ⟨rfl, hx3⟩; unfold pairI; have hb := HB.out _ hx3; have c0 := HC.out _ hx3 0 _ rfl; have c1 := HC.out _ hx3 1 _ rfl; have c2 := HC.out _ hx3 2 _ rfl; have c3 := HC.out _ hx3 3 _ rfl; obtain ⟨f0, f1, f2, f3⟩ := HF.out _ hx3; clear hx3) | fail)
      refine bodyPost_ret (v := .agg #[.int .i64 (j : Int), .int .i64 0, .string ⟨#[]⟩, .int .i64 0]) (by simp [results, Tryd.results63, go_sem, c0, c1, c2, c3]) rfl ?_
      exact ⟨refPieceV_0 HE.out, (((hb.setCell (Nat.le_refl _) _).setCell (Nat.le_refl _) _).setCell (Nat.le_refl _) _).setCell (Nat.le_refl _) _⟩
    have e3 : (v == 92) = false := beq_eq_false_iff_ne.2 h92
    have hbd := nextAt_bound hq hn
    have hjn : j + n ≤ l.length := by omega
    have hjn1 : j ≤ j + n := by omega
    have hs : j + n - j = n := by omega
    rw [if_neg (by simp [hn, h37, h92])] at hP
    have HE := Lib.hid hP
    clear hP hq hn hd hlen ha hes h37 h92 hbd
    go_enter Tryd.func63, Tryd.ntmps63
    go_wp2_with (first | (go_at_call 55; refine (PER.out _).mono ?_; rintro e w1 ⟨rfl, rfl⟩) | (go_at_call 57; refine (ESC.out _ _).mono ?_; rintro e w2 ⟨rfl, rfl⟩) | (go_at_call 41; refine (NX.out _).mono ?_; rintro e w3 ⟨rfl, hx3⟩; unfold pairI; have hb := HB.out _ hx3; have c0 := HC.out _ hx3 0 _ rfl; have c1 := HC.out _ hx3 1 _ rfl; have c2 := HC.out _ hx3 2 _ rfl; have c3 := HC.out _ hx3 3 _ rfl; obtain ⟨f0, f1, f2, f3⟩ := HF.out _ hx3; clear hx3) | fail)
    rw [hs]
    refine bodyPost_ret (v := .agg #[.int .i64 (j : Int), .int .i64 (n : Int), .string (B ((l.drop j).take n)), .int .i64 v]) (by simp [results, Tryd.results63, go_sem, c0, c1, c2, c3]) rfl ?_
    exact ⟨refPieceV_mk HE.out, (((hb.setCell (Nat.le_refl _) _).setCell (Nat.le_refl _) _).setCell (Nat.le_refl _) _).setCell (Nat.le_refl _) _⟩
end Go.Proofs.YtfjcbodkjjmagaaDoor
