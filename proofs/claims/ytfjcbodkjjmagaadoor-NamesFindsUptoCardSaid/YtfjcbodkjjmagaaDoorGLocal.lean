/-
  names.piece and the reference's piece: contracts. By an AI agent.
  The reference's piece: contract. By an AI agent.
  What the two pieces say of a step. No program in sight. By an AI agent.
  names.Local: contract. By an AI agent.
-/
import Derived.Test.YtfjcbodkjjmagaaDoorGPlain
import Derived.Test.YtfjcbodkjjmagaaDoorGSpell
namespace Go.Proofs.YtfjcbodkjjmagaaDoor
open Go.RowKit
set_option maxRecDepth 100000

def pieceV (p : List UInt8 × Nat × Int) : Value := .tuple #[.string (B p.1), .int .i64 (p.2.1 : Int), .int .i32 p.2.2]
theorem pieceV_mk {p : List UInt8 × Nat × Int} {t : List UInt8} {n : Nat} {r : Int} (h : p = (t, n, r)) : Ending.returned (.tuple #[.string (B t), .int .i64 (n : Int), .int .i32 r]) = .returned (pieceV p) := by rw [h]; rfl
theorem pieceV_0 {p : List UInt8 × Nat × Int} {n r : Int} {k : Nat} (h : p = ([], k, r)) (hk : (k : Int) = n) : Ending.returned (.tuple #[.string ⟨#[]⟩, .int .i64 n, .int .i32 r]) = .returned (pieceV p) := by rw [h, ← hk]; rfl
theorem escIx_no (b : UInt8) (h : escB (b.toNat : Int) = false) : ¬ 0 ≤ escIx (b.toNat : Int) := by
  have h2 : ∀ n < 256, escB ((n : Nat) : Int) = false → decide (0 ≤ escIx ((n : Nat) : Int)) = false := by decide +kernel
  exact of_decide_eq_false (h2 b.toNat (by have := b.toNat_lt; omega) h)
theorem escIx_yes (b : UInt8) (h : escB (b.toNat : Int) = true) : 0 ≤ escIx (b.toNat : Int) := by
  have h2 := escB_low _ h
  have h3 := escIx_ok _ h2.1 h2.2
  rw [h] at h3
  exact of_decide_eq_true h3
theorem drop_get {l : List UInt8} {j : Nat} {a : UInt8} {t : List UInt8} (hd : l.drop j = a :: t) (hj : j < l.length) : l[j] = a := by
  have := List.getElem_drop (xs := l) (i := j) (j := 0) (h := by simp; omega)
  simp only [Nat.add_zero] at this
  rw [← this]
  simp only [hd, List.getElem_cons_zero]
theorem drop_get1 {l : List UInt8} {j : Nat} {a b : UInt8} {t : List UInt8} (hd : l.drop j = a :: b :: t) (hj : j + 1 < l.length) : l[j + 1] = b := by
  have := List.getElem_drop (xs := l) (i := j) (j := 1) (h := by simp; omega)
  rw [← this]
  simp only [hd, List.getElem_cons_succ, List.getElem_cons_zero]
theorem drop_len {l : List UInt8} {j : Nat} {r : List UInt8} (hd : l.drop j = r) : r.length = l.length - j := by rw [← hd, List.length_drop]

set_option maxHeartbeats 1600000 in
theorem piece_l (l : List UInt8) (j : Nat) (w : World) (hl : l.length ≤ 140737488351232) (hj : j < l.length) :
    Calls Tryd.prog 61 #[.string (B l), .int .i64 (j : Int)] w fun e w' => e = .returned (pieceV (pieceF l j)) ∧ w' = w := by
  have PER0 : ∀ w, Calls Tryd.prog 52 #[.string (B (l.drop j))] w fun e w' => e = .returned (.bool (percB (l.drop j))) ∧ w' = w := fun w => percent_l (l.drop j) w (by simp; unfold maxLen; omega)
  have IXB := Lib.hid indexByte_esc
  obtain ⟨v, n, hq⟩ : ∃ v n, nextAt l (j : Int) = (v, n) := ⟨_, _, rfl⟩
  have NX := Lib.hid (fun w => hq ▸ next_l l j w (by omega) (by omega))
  have hP : pieceF l j = if percB (l.drop j) = true then ((l.drop j).take 3, 3, -1) else if esc2 (l.drop j) = true then ((l.drop (j + 1)).take 1, 2, -1) else if n = 0 then ([], 0, -3) else if v = 37 ∨ v = 92 then ([], 1, -2) else ((l.drop j).take n, n, v) := by unfold pieceF; rw [hq]
  have hpos : 0 < l.length - j := by omega
  cases hp : percB (l.drop j) with
  | true =>
    rw [hp, if_pos rfl] at hP
    rw [hp] at PER0
    have PER := Lib.hid PER0
    have HE := Lib.hid hP
    have h3 := percB_len hp
    rw [List.length_drop] at h3
    clear PER0 hP hp hq
    go_enter Tryd.func61, Tryd.ntmps61
    go_wp2_with (first | (go_at_call 52; refine (PER.out _).mono ?_; rintro e w1 ⟨rfl, rfl⟩) | (go_at_call 53; refine (IXB.out _ _).mono ?_; rintro e w2 ⟨rfl, rfl⟩) | (go_at_call 49; refine (NX.out _).mono ?_; rintro e w3 ⟨rfl, rfl⟩; unfold pairV) | fail)
    go_ret3
    exact ⟨pieceV_mk HE.out, rfl⟩
  | false =>
    rw [hp, if_neg (by simp)] at hP
    rw [hp] at PER0
    have PER := Lib.hid PER0
    clear PER0 hp
    obtain ⟨a, t, hd⟩ : ∃ a t, l.drop j = a :: t := by
      cases h : l.drop j with
      | nil => have := congrArg List.length h; simp at this; omega
      | cons a t => exact ⟨a, t, rfl⟩
    have ha0 := drop_get hd hj
    have hlen := drop_len hd
    by_cases ha : a = 92
    · have e1 : ((a.toNat : Int) == 92) = true := byte_eq ha
      have hlow := nextAt_low hd (by rw [ha]; decide)
      rw [hq] at hlow
      have hv : v = 92 := by have := (Prod.mk.inj hlow).1; rw [this, ha]; rfl
      have hn : n = 1 := (Prod.mk.inj hlow).2
      rw [hv, hn] at hP
      rcases t with _ | ⟨b, t⟩
      · have h1 : ¬ 1 < l.length - j := by rw [← hlen]; simp
        rw [hd, show esc2 [a] = false from rfl, if_neg (by simp), if_neg (by simp), if_pos (.inr rfl)] at hP
        have HE := Lib.hid hP
        clear hP hq hlow hv hn hd hlen ha
        go_enter Tryd.func61, Tryd.ntmps61
        go_wp2_with (first | (go_at_call 52; refine (PER.out _).mono ?_; rintro e w1 ⟨rfl, rfl⟩) | (go_at_call 53; refine (IXB.out _ _).mono ?_; rintro e w2 ⟨rfl, rfl⟩) | (go_at_call 49; refine (NX.out _).mono ?_; rintro e w3 ⟨rfl, rfl⟩; unfold pairV) | fail)
        go_ret3
        exact ⟨pieceV_0 HE.out rfl, rfl⟩
      have h1 : 1 < l.length - j := by rw [← hlen]; simp
      have hj1 : j + 1 < l.length := by omega
      have hb0 := drop_get1 hd hj1
      cases he : escB (b.toNat : Int) with
      | true =>
        have hix := escIx_yes b he
        rw [hd, show esc2 (a :: b :: t) = (decide (a = 92) && escB (b.toNat : Int)) from rfl, decide_eq_true ha, he, Bool.true_and, if_pos rfl] at hP
        have HE := Lib.hid hP
        have h2 : 2 ≤ l.length - j := by omega
        clear hP hq hlow hv hn hd hlen ha he
        go_enter Tryd.func61, Tryd.ntmps61
        go_wp2_with (first | (go_at_call 52; refine (PER.out _).mono ?_; rintro e w1 ⟨rfl, rfl⟩) | (go_at_call 53; refine (IXB.out _ _).mono ?_; rintro e w2 ⟨rfl, rfl⟩) | (go_at_call 49; refine (NX.out _).mono ?_; rintro e w3 ⟨rfl, rfl⟩; unfold pairV) | fail)
        go_ret3
        exact ⟨pieceV_mk HE.out, rfl⟩
      | false =>
        have hix := escIx_no b he
        rw [hd, show esc2 (a :: b :: t) = (decide (a = 92) && escB (b.toNat : Int)) from rfl, he, Bool.and_false, if_neg (by simp), if_neg (by simp), if_pos (.inr rfl)] at hP
        have HE := Lib.hid hP
        clear hP hq hlow hv hn hd hlen ha he
        go_enter Tryd.func61, Tryd.ntmps61
        go_wp2_with (first | (go_at_call 52; refine (PER.out _).mono ?_; rintro e w1 ⟨rfl, rfl⟩) | (go_at_call 53; refine (IXB.out _ _).mono ?_; rintro e w2 ⟨rfl, rfl⟩) | (go_at_call 49; refine (NX.out _).mono ?_; rintro e w3 ⟨rfl, rfl⟩; unfold pairV) | fail)
        go_ret3
        exact ⟨pieceV_0 HE.out rfl, rfl⟩
    have e1 : ((a.toNat : Int) == 92) = false := byte_ne ha
    have hes : esc2 (l.drop j) = false := by
      cases h : esc2 (l.drop j) with
      | false => rfl
      | true => obtain ⟨b, t', e, _⟩ := esc2_front h; rw [hd] at e; cases e; exact absurd rfl ha
    rw [hes, if_neg (by simp)] at hP
    by_cases hb : a = 37
    · have e2 : ((a.toNat : Int) == 37) = true := byte_eq hb
      have hlow := nextAt_low hd (by rw [hb]; decide)
      rw [hq] at hlow
      have hv : v = 37 := by have := (Prod.mk.inj hlow).1; rw [this, hb]; rfl
      have hn : n = 1 := (Prod.mk.inj hlow).2
      rw [hv, hn, if_neg (by simp), if_pos (.inl rfl)] at hP
      have HE := Lib.hid hP
      clear hP hq hlow hv hn hd hlen ha hb hes
      go_enter Tryd.func61, Tryd.ntmps61
      go_wp2_with (first | (go_at_call 52; refine (PER.out _).mono ?_; rintro e w1 ⟨rfl, rfl⟩) | (go_at_call 53; refine (IXB.out _ _).mono ?_; rintro e w2 ⟨rfl, rfl⟩) | (go_at_call 49; refine (NX.out _).mono ?_; rintro e w3 ⟨rfl, rfl⟩; unfold pairV) | fail)
      go_ret3
      exact ⟨pieceV_0 HE.out rfl, rfl⟩
    have e2 : ((a.toNat : Int) == 37) = false := byte_ne hb
    by_cases hn : n = 0
    · have e0 : ((n : Int) == 0) = true := by rw [hn]; rfl
      rw [if_pos hn] at hP
      have HE := Lib.hid hP
      clear hP hq hn hd hlen ha hb hes
      go_enter Tryd.func61, Tryd.ntmps61
      go_wp2_with (first | (go_at_call 52; refine (PER.out _).mono ?_; rintro e w1 ⟨rfl, rfl⟩) | (go_at_call 53; refine (IXB.out _ _).mono ?_; rintro e w2 ⟨rfl, rfl⟩) | (go_at_call 49; refine (NX.out _).mono ?_; rintro e w3 ⟨rfl, rfl⟩; unfold pairV) | fail)
      go_ret3
      exact ⟨pieceV_0 HE.out rfl, rfl⟩
    have e0 : ((n : Int) == 0) = false := beq_eq_false_iff_ne.2 (by omega)
    have hbd := nextAt_bound hq hn
    have hjn : n ≤ l.length - j := by omega
    have hv : ¬ (v = 37 ∨ v = 92) := by
      intro h
      have := nextAt_head hq hn (by omega) hd
      rcases h with h | h
      · exact hb (UInt8.toNat_inj.1 (by rw [show (37 : UInt8).toNat = 37 from rfl]; omega))
      · exact ha (UInt8.toNat_inj.1 (by rw [show (92 : UInt8).toNat = 92 from rfl]; omega))
    rw [if_neg hn, if_neg hv] at hP
    have HE := Lib.hid hP
    clear hP hq hn hd hlen ha hb hes hv hbd
    go_enter Tryd.func61, Tryd.ntmps61
    go_wp2_with (first | (go_at_call 52; refine (PER.out _).mono ?_; rintro e w1 ⟨rfl, rfl⟩) | (go_at_call 53; refine (IXB.out _ _).mono ?_; rintro e w2 ⟨rfl, rfl⟩) | (go_at_call 49; refine (NX.out _).mono ?_; rintro e w3 ⟨rfl, rfl⟩; unfold pairV) | fail)
    go_ret3
    exact ⟨pieceV_mk HE.out, rfl⟩

end Go.Proofs.YtfjcbodkjjmagaaDoor

namespace Go.Proofs.YtfjcbodkjjmagaaDoor
open Go.RowKit
set_option maxRecDepth 100000

/-- what the reference's piece answers: what it says, how many bytes, the scalar -/
def refPieceF (l : List UInt8) (j : Nat) : List UInt8 × Nat × Int :=
  if percB (l.drop j) = true then ((l.drop j).take 3, 3, -1)
  else if esc2 (l.drop j) = true then ((l.drop (j + 1)).take 1, 2, -1)
  else if (nextAt l j).2 = 0 ∨ (nextAt l j).1 = 37 ∨ (nextAt l j).1 = 92 then ([], 0, 0)
  else ((l.drop j).take (nextAt l j).2, (nextAt l j).2, (nextAt l j).1)
def refPieceV (j : Nat) (p : List UInt8 × Nat × Int) : Value := .agg #[.int .i64 (j : Int), .int .i64 (p.2.1 : Int), .string (B p.1), .int .i64 p.2.2]
theorem wrap64_byte (b : UInt8) : wrap64 (b.toNat : Int) = (b.toNat : Int) := by have := b.toNat_lt; unfold wrap64; omega
attribute [go_sem] wrap64_byte
theorem refPieceV_mk {j : Nat} {p : List UInt8 × Nat × Int} {t : List UInt8} {n : Nat} {r : Int} (h : p = (t, n, r)) : Ending.returned (.agg #[.int .i64 (j : Int), .int .i64 (n : Int), .string (B t), .int .i64 r]) = .returned (refPieceV j p) := by rw [h]; rfl
theorem refPieceV_0 {j : Nat} {p : List UInt8 × Nat × Int} (h : p = ([], 0, 0)) : Ending.returned (.agg #[.int .i64 (j : Int), .int .i64 0, .string ⟨#[]⟩, .int .i64 0]) = .returned (refPieceV j p) := by rw [h]; rfl

set_option maxHeartbeats 1600000 in
theorem refPiece_l (l : List UInt8) (j : Nat) (w : World) (hl : l.length ≤ 140737488351232) (hj : j < l.length) :
    Calls Tryd.prog 63 #[.string (B l), .int .i64 (j : Int)] w fun e w' => e = .returned (refPieceV j (refPieceF l j)) ∧ Below w.heap.size w w' := by
  have PER0 : ∀ w, Calls Tryd.prog 55 #[.string (B l), .int .i64 (j : Int)] w fun e w' => e = .returned (.bool (percB (l.drop j))) ∧ w' = w := fun w => refPercent_l l j w (by omega) (by omega)
  have ESC := Lib.hid escapable_any
  obtain ⟨v, n, hq⟩ : ∃ v n, nextAt l (j : Int) = (v, n) := ⟨_, _, rfl⟩
  have NX := Lib.hid (fun w => hq ▸ refNext_l l j w (by omega) (by omega))
  have hP : refPieceF l j = if percB (l.drop j) = true then ((l.drop j).take 3, 3, -1) else if esc2 (l.drop j) = true then ((l.drop (j + 1)).take 1, 2, -1) else if n = 0 ∨ v = 37 ∨ v = 92 then ([], 0, 0) else ((l.drop j).take n, n, v) := by unfold refPieceF; rw [hq]
  have HB : Hid (∀ w3, Below (w.alloc (.cells #[.int .i64 0, .int .i64 0, .string ⟨#[]⟩, .int .i64 0] 85)).heap.size (w.alloc (.cells #[.int .i64 0, .int .i64 0, .string ⟨#[]⟩, .int .i64 0] 85)) w3 → Below w.heap.size w w3) := Lib.hid (fun w3 h => ((Below.refl w.heap.size w).alloc (Nat.le_refl _) _).trans (h.mono (by simp)))
  have HC : Hid (∀ w3, Below (w.alloc (.cells #[.int .i64 0, .int .i64 0, .string ⟨#[]⟩, .int .i64 0] 85)).heap.size (w.alloc (.cells #[.int .i64 0, .int .i64 0, .string ⟨#[]⟩, .int .i64 0] 85)) w3 → ∀ (k : Nat) (x : Value), (#[.int .i64 0, .int .i64 0, .string ⟨#[]⟩, .int .i64 0] : Array Value)[k]? = some x → w3.cell? ⟨w.heap.size, k, none⟩ = some x) := Lib.hid (fun w3 h k x hx => by rw [h.cell (p := ⟨w.heap.size, k, none⟩) (by simp), World.cell?_alloc_new]; exact hx)
  have HF : Hid (∀ w3, Below (w.alloc (.cells #[.int .i64 0, .int .i64 0, .string ⟨#[]⟩, .int .i64 0] 85)).heap.size (w.alloc (.cells #[.int .i64 0, .int .i64 0, .string ⟨#[]⟩, .int .i64 0] 85)) w3 → w3.frozen? ⟨w.heap.size, 0, none⟩ = false ∧ w3.frozen? ⟨w.heap.size, 1, none⟩ = false ∧ w3.frozen? ⟨w.heap.size, 2, none⟩ = false ∧ w3.frozen? ⟨w.heap.size, 3, none⟩ = false) := Lib.hid (fun w3 h => by refine ⟨?_, ?_, ?_, ?_⟩ <;> (rw [h.frozen (by simp)]; simp))
  cases hp : percB (l.drop j) with
  | true =>
    rw [hp, if_pos rfl] at hP
    rw [hp] at PER0
    have PER := Lib.hid PER0
    have HE := Lib.hid hP
    have h3 := percB_len hp
    rw [List.length_drop] at h3
    have hj3 : j + 3 ≤ l.length := by omega
    have hs : j + 3 - j = 3 := by omega
    clear PER0 hP hp hq h3
    go_enter Tryd.func63, Tryd.ntmps63
    go_wp2_with (first | (go_at_call 55; refine (PER.out _).mono ?_; rintro e w1 ⟨rfl, rfl⟩) | (go_at_call 57; refine (ESC.out _ _).mono ?_; rintro e w2 ⟨rfl, rfl⟩) | (go_at_call 41; refine (NX.out _).mono ?_; rintro e w3 ⟨rfl, hx3⟩; unfold pairI; have hb := HB.out _ hx3; have c0 := HC.out _ hx3 0 _ rfl; have c1 := HC.out _ hx3 1 _ rfl; have c2 := HC.out _ hx3 2 _ rfl; have c3 := HC.out _ hx3 3 _ rfl; obtain ⟨f0, f1, f2, f3⟩ := HF.out _ hx3; clear hx3) | fail)
    rw [hs]
    refine bodyPost_ret (v := .agg #[.int .i64 (j : Int), .int .i64 3, .string (B ((l.drop j).take 3)), .int .i64 (-1)]) (by simp [results, Tryd.results63, go_sem]) rfl ?_
    exact ⟨refPieceV_mk HE.out, (Below.refl w.heap.size w).alloc (Nat.le_refl _) _⟩
  | false =>
    rw [hp, if_neg (by simp)] at hP
    rw [hp] at PER0
    have PER := Lib.hid PER0
    clear PER0 hp
    obtain ⟨a, t, hd⟩ : ∃ a t, l.drop j = a :: t := by
      cases h : l.drop j with
      | nil => have := congrArg List.length h; simp at this; omega
      | cons a t => exact ⟨a, t, rfl⟩
    have ha0 := drop_get hd hj
    have hlen := drop_len hd
    by_cases ha : a = 92
    · have e1 : ((a.toNat : Int) == 92) = true := byte_eq ha
      have hlow := nextAt_low hd (by rw [ha]; decide)
      rw [hq] at hlow
      have hv : v = 92 := by have := (Prod.mk.inj hlow).1; rw [this, ha]; rfl
      have hn : n = 1 := (Prod.mk.inj hlow).2
      subst hv hn
      rcases t with _ | ⟨b, t⟩
      · have h1 : ¬ j + 1 < l.length := by simp at hlen; omega
        rw [hd, show esc2 [a] = false from rfl, if_neg (by simp), if_pos (.inr (.inr rfl))] at hP
        have HE := Lib.hid hP
        clear hP hq hlow hd hlen ha
        go_enter Tryd.func63, Tryd.ntmps63
        go_wp2_with (first | (go_at_call 55; refine (PER.out _).mono ?_; rintro e w1 ⟨rfl, rfl⟩) | (go_at_call 57; refine (ESC.out _ _).mono ?_; rintro e w2 ⟨rfl, rfl⟩) | (go_at_call 41; refine (NX.out _).mono ?_; rintro e w3 ⟨rfl, hx3⟩; unfold pairI; have hb := HB.out _ hx3; have c0 := HC.out _ hx3 0 _ rfl; have c1 := HC.out _ hx3 1 _ rfl; have c2 := HC.out _ hx3 2 _ rfl; have c3 := HC.out _ hx3 3 _ rfl; obtain ⟨f0, f1, f2, f3⟩ := HF.out _ hx3; clear hx3) | fail)
        refine bodyPost_ret (v := .agg #[.int .i64 (j : Int), .int .i64 0, .string ⟨#[]⟩, .int .i64 0]) (by simp [results, Tryd.results63, go_sem, c0, c1, c2, c3]) rfl ?_
        exact ⟨refPieceV_0 HE.out, (((hb.setCell (Nat.le_refl _) _).setCell (Nat.le_refl _) _).setCell (Nat.le_refl _) _).setCell (Nat.le_refl _) _⟩
      have h1 : j + 1 < l.length := by simp at hlen; omega
      have hb0 := drop_get1 hd h1
      cases he : escB (b.toNat : Int) with
      | true =>
        rw [hd, show esc2 (a :: b :: t) = (decide (a = 92) && escB (b.toNat : Int)) from rfl, decide_eq_true ha, he, Bool.true_and, if_pos rfl] at hP
        have HE := Lib.hid hP
        have h2 : j + 2 ≤ l.length := by omega
        have hs : j + 2 - (j + 1) = 1 := by omega
        clear hP hq hlow hd hlen ha
        go_enter Tryd.func63, Tryd.ntmps63
        go_wp2_with (first | (go_at_call 55; refine (PER.out _).mono ?_; rintro e w1 ⟨rfl, rfl⟩) | (go_at_call 57; refine (ESC.out _ _).mono ?_; rintro e w2 ⟨rfl, rfl⟩) | (go_at_call 41; refine (NX.out _).mono ?_; rintro e w3 ⟨rfl, hx3⟩; unfold pairI; have hb := HB.out _ hx3; have c0 := HC.out _ hx3 0 _ rfl; have c1 := HC.out _ hx3 1 _ rfl; have c2 := HC.out _ hx3 2 _ rfl; have c3 := HC.out _ hx3 3 _ rfl; obtain ⟨f0, f1, f2, f3⟩ := HF.out _ hx3; clear hx3) | fail)
        rw [hs]
        refine bodyPost_ret (v := .agg #[.int .i64 (j : Int), .int .i64 2, .string (B ((l.drop (j + 1)).take 1)), .int .i64 (-1)]) (by simp [results, Tryd.results63, go_sem]) rfl ?_
        exact ⟨refPieceV_mk HE.out, (Below.refl w.heap.size w).alloc (Nat.le_refl _) _⟩
      | false =>
        rw [hd, show esc2 (a :: b :: t) = (decide (a = 92) && escB (b.toNat : Int)) from rfl, he, Bool.and_false, if_neg (by simp), if_pos (.inr (.inr rfl))] at hP
        have HE := Lib.hid hP
        clear hP hq hlow hd hlen ha
        go_enter Tryd.func63, Tryd.ntmps63
        go_wp2_with (first | (go_at_call 55; refine (PER.out _).mono ?_; rintro e w1 ⟨rfl, rfl⟩) | (go_at_call 57; refine (ESC.out _ _).mono ?_; rintro e w2 ⟨rfl, rfl⟩) | (go_at_call 41; refine (NX.out _).mono ?_; rintro e w3 ⟨rfl, hx3⟩; unfold pairI; have hb := HB.out _ hx3; have c0 := HC.out _ hx3 0 _ rfl; have c1 := HC.out _ hx3 1 _ rfl; have c2 := HC.out _ hx3 2 _ rfl; have c3 := HC.out _ hx3 3 _ rfl; obtain ⟨f0, f1, f2, f3⟩ := HF.out _ hx3; clear hx3) | fail)
        refine bodyPost_ret (v := .agg #[.int .i64 (j : Int), .int .i64 0, .string ⟨#[]⟩, .int .i64 0]) (by simp [results, Tryd.results63, go_sem, c0, c1, c2, c3]) rfl ?_
        exact ⟨refPieceV_0 HE.out, (((hb.setCell (Nat.le_refl _) _).setCell (Nat.le_refl _) _).setCell (Nat.le_refl _) _).setCell (Nat.le_refl _) _⟩
    have e1 : ((a.toNat : Int) == 92) = false := byte_ne ha
    have hes : esc2 (l.drop j) = false := by
      cases h : esc2 (l.drop j) with
      | false => rfl
      | true => obtain ⟨b, t', e, _⟩ := esc2_front h; rw [hd] at e; cases e; exact absurd rfl ha
    rw [hes, if_neg (by simp)] at hP
    by_cases hn : n = 0
    · have e0 : ((n : Int) == 0) = true := by rw [hn]; rfl
      rw [if_pos (.inl hn)] at hP
      have HE := Lib.hid hP
      clear hP hq hn hd hlen ha hes
      go_enter Tryd.func63, Tryd.ntmps63
      go_wp2_with (first | (go_at_call 55; refine (PER.out _).mono ?_; rintro e w1 ⟨rfl, rfl⟩) | (go_at_call 57; refine (ESC.out _ _).mono ?_; rintro e w2 ⟨rfl, rfl⟩) | (go_at_call 41; refine (NX.out _).mono ?_; rintro e w3 ⟨rfl, hx3⟩; unfold pairI; have hb := HB.out _ hx3; have c0 := HC.out _ hx3 0 _ rfl; have c1 := HC.out _ hx3 1 _ rfl; have c2 := HC.out _ hx3 2 _ rfl; have c3 := HC.out _ hx3 3 _ rfl; obtain ⟨f0, f1, f2, f3⟩ := HF.out _ hx3; clear hx3) | fail)
      refine bodyPost_ret (v := .agg #[.int .i64 (j : Int), .int .i64 0, .string ⟨#[]⟩, .int .i64 0]) (by simp [results, Tryd.results63, go_sem, c0, c1, c2, c3]) rfl ?_
      exact ⟨refPieceV_0 HE.out, (((hb.setCell (Nat.le_refl _) _).setCell (Nat.le_refl _) _).setCell (Nat.le_refl _) _).setCell (Nat.le_refl _) _⟩
    have e0 : ((n : Int) == 0) = false := beq_eq_false_iff_ne.2 (by omega)
    by_cases h37 : v = 37
    · have e2 : (v == 37) = true := beq_iff_eq.2 h37
      rw [if_pos (.inr (.inl h37))] at hP
      have HE := Lib.hid hP
      clear hP hq hn hd hlen ha hes h37
      go_enter Tryd.func63, Tryd.ntmps63
      go_wp2_with (first | (go_at_call 55; refine (PER.out _).mono ?_; rintro e w1 ⟨rfl, rfl⟩) | (go_at_call 57; refine (ESC.out _ _).mono ?_; rintro e w2 ⟨rfl, rfl⟩) | (go_at_call 41; refine (NX.out _).mono ?_; rintro e w3 ⟨rfl, hx3⟩; unfold pairI; have hb := HB.out _ hx3; have c0 := HC.out _ hx3 0 _ rfl; have c1 := HC.out _ hx3 1 _ rfl; have c2 := HC.out _ hx3 2 _ rfl; have c3 := HC.out _ hx3 3 _ rfl; obtain ⟨f0, f1, f2, f3⟩ := HF.out _ hx3; clear hx3) | fail)
      refine bodyPost_ret (v := .agg #[.int .i64 (j : Int), .int .i64 0, .string ⟨#[]⟩, .int .i64 0]) (by simp [results, Tryd.results63, go_sem, c0, c1, c2, c3]) rfl ?_
      exact ⟨refPieceV_0 HE.out, (((hb.setCell (Nat.le_refl _) _).setCell (Nat.le_refl _) _).setCell (Nat.le_refl _) _).setCell (Nat.le_refl _) _⟩
    have e2 : (v == 37) = false := beq_eq_false_iff_ne.2 h37
    by_cases h92 : v = 92
    · have e3 : (v == 92) = true := beq_iff_eq.2 h92
      rw [if_pos (.inr (.inr h92))] at hP
      have HE := Lib.hid hP
      clear hP hq hn hd hlen ha hes h37 h92
      go_enter Tryd.func63, Tryd.ntmps63
      go_wp2_with (first | (go_at_call 55; refine (PER.out _).mono ?_; rintro e w1 ⟨rfl, rfl⟩) | (go_at_call 57; refine (ESC.out _ _).mono ?_; rintro e w2 ⟨rfl, rfl⟩) | (go_at_call 41; refine (NX.out _).mono ?_; rintro e w3 ⟨rfl, hx3⟩; unfold pairI; have hb := HB.out _ hx3; have c0 := HC.out _ hx3 0 _ rfl; have c1 := HC.out _ hx3 1 _ rfl; have c2 := HC.out _ hx3 2 _ rfl; have c3 := HC.out _ hx3 3 _ rfl; obtain ⟨f0, f1, f2, f3⟩ := HF.out _ hx3; clear hx3) | fail)
      refine bodyPost_ret (v := .agg #[.int .i64 (j : Int), .int .i64 0, .string ⟨#[]⟩, .int .i64 0]) (by simp [results, Tryd.results63, go_sem, c0, c1, c2, c3]) rfl ?_
      exact ⟨refPieceV_0 HE.out, (((hb.setCell (Nat.le_refl _) _).setCell (Nat.le_refl _) _).setCell (Nat.le_refl _) _).setCell (Nat.le_refl _) _⟩
    have e3 : (v == 92) = false := beq_eq_false_iff_ne.2 h92
    have hbd := nextAt_bound hq hn
    have hjn : j + n ≤ l.length := by omega
    have hjn1 : j ≤ j + n := by omega
    have hs : j + n - j = n := by omega
    rw [if_neg (by simp [hn, h37, h92])] at hP
    have HE := Lib.hid hP
    clear hP hq hn hd hlen ha hes h37 h92 hbd
    go_enter Tryd.func63, Tryd.ntmps63
    go_wp2_with (first | (go_at_call 55; refine (PER.out _).mono ?_; rintro e w1 ⟨rfl, rfl⟩) | (go_at_call 57; refine (ESC.out _ _).mono ?_; rintro e w2 ⟨rfl, rfl⟩) | (go_at_call 41; refine (NX.out _).mono ?_; rintro e w3 ⟨rfl, hx3⟩; unfold pairI; have hb := HB.out _ hx3; have c0 := HC.out _ hx3 0 _ rfl; have c1 := HC.out _ hx3 1 _ rfl; have c2 := HC.out _ hx3 2 _ rfl; have c3 := HC.out _ hx3 3 _ rfl; obtain ⟨f0, f1, f2, f3⟩ := HF.out _ hx3; clear hx3) | fail)
    rw [hs]
    refine bodyPost_ret (v := .agg #[.int .i64 (j : Int), .int .i64 (n : Int), .string (B ((l.drop j).take n)), .int .i64 v]) (by simp [results, Tryd.results63, go_sem, c0, c1, c2, c3]) rfl ?_
    exact ⟨refPieceV_mk HE.out, (((hb.setCell (Nat.le_refl _) _).setCell (Nat.le_refl _) _).setCell (Nat.le_refl _) _).setCell (Nat.le_refl _) _⟩
end Go.Proofs.YtfjcbodkjjmagaaDoor

namespace Go.Proofs.YtfjcbodkjjmagaaDoor
open Go.RowKit
set_option maxRecDepth 100000

theorem piece_cases {l : List UInt8} {j n : Nat} {t : List UInt8} {r : Int} (h : pieceF l j = (t, n, r)) :
    (r = -1 ∧ stepL l j = .inl (t, n)) ∨ (r = -3 ∧ stepL l j = .inr 40) ∨ (r = -2 ∧ stepL l j = .inr 62) ∨ (0 ≤ r ∧ j + n ≤ l.length ∧ stepL l j = if standsB r (decide (j = 0)) (decide (j + n = l.length)) = true then .inl (t, n) else .inr 62) := by
  obtain ⟨v, m, hq⟩ : ∃ v m, nextAt l (j : Int) = (v, m) := ⟨_, _, rfl⟩
  unfold pieceF at h
  unfold stepL
  rw [hq] at h ⊢
  simp only at h ⊢
  by_cases h1 : percB (l.drop j) = true
  · rw [if_pos h1] at h ⊢; cases h; exact .inl ⟨rfl, rfl⟩
  rw [if_neg h1] at h ⊢
  by_cases h2 : esc2 (l.drop j) = true
  · rw [if_pos h2] at h ⊢; cases h; exact .inl ⟨rfl, rfl⟩
  rw [if_neg h2] at h ⊢
  by_cases h3 : m = 0
  · rw [if_pos h3] at h ⊢; cases h; exact .inr (.inl ⟨rfl, rfl⟩)
  rw [if_neg h3] at h ⊢
  by_cases h4 : v = 37 ∨ v = 92
  · rw [if_pos h4] at h ⊢; cases h; exact .inr (.inr (.inl ⟨rfl, rfl⟩))
  rw [if_neg h4] at h ⊢
  cases h
  exact .inr (.inr (.inr ⟨(nextAt_bound hq h3).2.2.1, by have := (nextAt_bound hq h3).2.1; omega, rfl⟩))

theorem esc2_next {l : List UInt8} {j : Nat} (h : esc2 (l.drop j) = true) : nextAt l j = (92, 1) := by
  obtain ⟨b, t, ht, _⟩ := esc2_front h
  rw [nextAt_low ht (by decide)]
  rfl

theorem refPiece_cases {l : List UInt8} {j n m : Nat} {t : List UInt8} {r v : Int} (h : refPieceF l j = (t, n, r)) (hq : nextAt l (j : Int) = (v, m)) :
    (m = 0 ∧ stepL l j = .inr 40) ∨ (m ≠ 0 ∧ ((n = 0 ∧ stepL l j = .inr 62) ∨ (n ≠ 0 ∧ r = -1 ∧ stepL l j = .inl (t, n)) ∨ (n ≠ 0 ∧ 0 ≤ r ∧ j + n ≤ l.length ∧ stepL l j = if standsB r (decide (j = 0)) (decide (j + n = l.length)) = true then .inl (t, n) else .inr 62))) := by
  unfold refPieceF at h
  unfold stepL
  by_cases h1 : percB (l.drop j) = true
  · have := percB_next h1
    rw [hq] at this
    cases this
    rw [if_pos h1] at h ⊢; cases h; exact .inr ⟨by omega, .inr (.inl ⟨by omega, rfl, rfl⟩)⟩
  rw [if_neg h1] at h ⊢
  by_cases h2 : esc2 (l.drop j) = true
  · have := esc2_next h2
    rw [hq] at this
    cases this
    rw [if_pos h2] at h ⊢; cases h; exact .inr ⟨by omega, .inr (.inl ⟨by omega, rfl, rfl⟩)⟩
  rw [if_neg h2] at h ⊢
  rw [hq] at h ⊢
  simp only at h ⊢
  by_cases h3 : m = 0
  · rw [if_pos h3]; exact .inl ⟨h3, rfl⟩
  rw [if_neg h3]
  by_cases h4 : v = 37 ∨ v = 92
  · rw [if_pos (.inr h4)] at h; rw [if_pos h4]; cases h; exact .inr ⟨h3, .inl ⟨rfl, rfl⟩⟩
  rw [if_neg (by rintro (h | h); exact h3 h; exact h4 h)] at h
  rw [if_neg h4]
  cases h
  exact .inr ⟨h3, .inr (.inr ⟨h3, (nextAt_bound hq h3).2.2.1, by have := (nextAt_bound hq h3).2.1; omega, rfl⟩)⟩

/-- what a text says, or nothing -/
def sayF : List UInt8 ⊕ (Nat × Int) → List UInt8
  | .inl t => t
  | .inr _ => []
end Go.Proofs.YtfjcbodkjjmagaaDoor

namespace Go.Proofs.YtfjcbodkjjmagaaDoor
open Go.RowKit
set_option maxRecDepth 100000

/-- an error as Local gives it, or none -/
def ErrIs (w : World) (v : Value) : List UInt8 ⊕ (Nat × Int) → Prop
  | .inl _ => v = .nilIface
  | .inr (p, n) => ∃ b, v = .iface 87 (.pointer (some ⟨b, 0, none⟩)) ∧ w.cell? ⟨b, 0, none⟩ = some (.int .i64 (p : Int)) ∧ w.cell? ⟨b, 1, none⟩ = some (.iface 25 (.int .i64 n))
theorem ErrIs.below {w w' : World} {v : Value} {x : List UInt8 ⊕ (Nat × Int)} (h : ErrIs w v x) (hb : Below w.heap.size w w') : ErrIs w' v x := by
  rcases x with t | ⟨p, n⟩
  · exact h
  · obtain ⟨b, rfl, h1, h2⟩ := h
    exact ⟨b, rfl, by rw [hb.cell (World.block_lt_of_cell? _ _ h1)]; exact h1, by rw [hb.cell (World.block_lt_of_cell? _ _ h2)]; exact h2⟩
theorem wrong_l (p n : Int) (w : World) : Calls Tryd.prog 62 #[.int .i64 p, .int .i64 n] w fun e w' => e = .returned (.iface 87 (.pointer (some ⟨w.heap.size, 0, none⟩))) ∧ w' = w.alloc (.cells #[.int .i64 p, .iface 25 (.int .i64 n)] 91) := by
  go_enter Tryd.func62, Tryd.ntmps62
  go_wp2
  go_ret
  exact ⟨rfl, rfl⟩

def LocPost (w' : World) (e : Ending) (x : List UInt8 ⊕ (Nat × Int)) : Prop := ∃ v, e = .returned (.tuple #[.string (B (sayF x)), v]) ∧ ErrIs w' v x
theorem locPost_bad {x : List UInt8 ⊕ (Nat × Int)} {p : Nat} {n : Int} {w : World} (h : x = .inr (p, n)) :
    LocPost (w.alloc (.cells #[.int .i64 (p : Int), .iface 25 (.int .i64 n)] 91)) (.returned (.tuple #[.string ⟨#[]⟩, .iface 87 (.pointer (some ⟨w.heap.size, 0, none⟩))])) x := by
  subst h
  exact ⟨_, rfl, _, rfl, by rw [World.cell?_alloc_new]; rfl, by rw [World.cell?_alloc_new]; rfl⟩

set_option maxHeartbeats 1600000 in
theorem local_l (l : List UInt8) (w : World) (hl : l.length ≤ 140737488351232) (hT : TabAt w) :
    Calls Tryd.prog 26 #[.string (B l)] w fun e w' => LocPost w' e (locF l 0) ∧ Below w.heap.size w w' := by
  have PIE := Lib.hid (fun (j : Nat) (hj : j < l.length) (t : List UInt8) (n : Nat) (r : Int) (h : pieceF l j = (t, n, r)) (w : World) => h ▸ piece_l l j w hl hj)
  have WRI := Lib.hid writeString_l
  have STR := Lib.hid builderString_l
  have WRO := Lib.hid wrong_l
  have HT := Lib.hid hT
  clear hT
  go_enter Tryd.func26, Tryd.ntmps26
  go_wp2_with fail
  go_loopw [5] (fun i wr => ∃ (j : Nat) (acc : List UInt8), i = .int .i64 j ∧ j ≤ l.length ∧ acc.length ≤ j ∧ Hid (locF l 0 = putF acc (locF l j)) ∧ BuildsB wr w.heap.size w.heap.size acc ∧ Below w.heap.size w wr) (fun i _ => l.length - (intOf i).toNat)
  case atStart => exact ⟨0, [], rfl, Nat.zero_le _, Nat.le_refl _, Lib.hid (putF_nil _).symm, Lib.fresh_isBuilder _ _ _, (Below.refl _ _).alloc (Nat.le_refl _) _⟩
  case round =>
    obtain ⟨j, acc, rfl, hj, hacc, HS, hbu, hb⟩ := hrel
    by_cases hlt : j < l.length
    · obtain ⟨t, n, r, hq⟩ : ∃ t n r, pieceF l j = (t, n, r) := ⟨_, _, _, rfl⟩
      have P2 := Lib.hid (PIE.out j hlt t n r hq)
      rcases piece_cases hq with ⟨hr, hst⟩ | ⟨hr, hst⟩ | ⟨hr, hst⟩ | ⟨hr, hjn, hst⟩
      · subst hr
        have hbd := stepL_bound hst
        have hjn : j + n ≤ l.length := by omega
        have hjn1 : j < j + n := by omega
        have HE : Hid (locF l 0 = putF (acc ++ t) (locF l (j + n))) := Lib.hid (by rw [HS.out, locF_step hlt hst, putF_put])
        have HL := Lib.hid hbd.2.2
        have hlx : acc.length + t.length ≤ 140737488355328 := by omega
        clear hq HS hst hbd
        go_wp2_with (first | (go_at_call 61; refine (P2.out _).mono ?_; rintro e w1 ⟨rfl, rfl⟩; unfold pieceV) | (go_at_call 51; refine (WRI.out _ _ acc t _ hbu ?c1 hb.size).mono ?_; rotate_left; rintro e w4 ⟨rfl, hbu2, hb4⟩; replace hb := hb.trans hb4; clear hbu hb4))
        case c1 => exact hlx
        go_roundw
        case rel => exact ⟨j + n, acc ++ t, by go_num, hjn, by have := HL.out; simp; omega, HE, hbu2, hb⟩
        case measure => simp [intOf]; omega
      · subst hr
        have HE : Hid (locF l 0 = .inr (j, 40)) := Lib.hid (by rw [HS.out, locF_bad hlt hst]; rfl)
        clear hq HS hst
        go_wp2_with (first | (go_at_call 61; refine (P2.out _).mono ?_; rintro e w1 ⟨rfl, rfl⟩; unfold pieceV) | (go_at_call 62; refine (WRO.out _ _ _).mono ?_; rintro e w4 ⟨rfl, rfl⟩))
        go_ret2
        exact ⟨locPost_bad HE.out, hb.alloc hb.size _⟩
      · subst hr
        have HE : Hid (locF l 0 = .inr (j, 62)) := Lib.hid (by rw [HS.out, locF_bad hlt hst]; rfl)
        clear hq HS hst
        go_wp2_with (first | (go_at_call 61; refine (P2.out _).mono ?_; rintro e w1 ⟨rfl, rfl⟩; unfold pieceV) | (go_at_call 62; refine (WRO.out _ _ _).mono ?_; rintro e w4 ⟨rfl, rfl⟩))
        go_ret2
        exact ⟨locPost_bad HE.out, hb.alloc hb.size _⟩
      · have r3 : (r == -3) = false := beq_eq_false_iff_ne.2 (by omega)
        have r2 : (r == -2) = false := beq_eq_false_iff_ne.2 (by omega)
        have STA : Hid (∀ w, TabAt w → Calls Tryd.prog 50 #[.int .i32 r, .bool ((j : Int) == 0), .bool ((j : Int) + (n : Int) == (l.length : Int))] w fun e w' => e = .returned (.bool (standsB r (decide (j = 0)) (decide (j + n = l.length)))) ∧ w' = w) := by
          refine Lib.hid (fun w h => ?_)
          have h1 : ((j : Int) == 0) = decide (j = 0) := by rw [Bool.eq_iff_iff]; simp
          have h2 : ((j : Int) + (n : Int) == (l.length : Int)) = decide (j + n = l.length) := by rw [Bool.eq_iff_iff]; simp; omega
          rw [h1, h2]
          exact stands_any r _ _ w h
        have hnn : n ≤ l.length := by omega
        cases hs : standsB r (decide (j = 0)) (decide (j + n = l.length)) with
        | true =>
          rw [hs, if_pos rfl] at hst
          rw [hs] at STA
          have hbd := stepL_bound hst
          have hjn1 : j < j + n := by omega
          have HE : Hid (locF l 0 = putF (acc ++ t) (locF l (j + n))) := Lib.hid (by rw [HS.out, locF_step hlt hst, putF_put])
          have HL := Lib.hid hbd.2.2
          have hlx : acc.length + t.length ≤ 140737488355328 := by omega
          clear hq HS hst hbd hs
          go_wp2_with (first | (go_at_call 61; refine (P2.out _).mono ?_; rintro e w1 ⟨rfl, rfl⟩; unfold pieceV) | (go_at_call 50; refine (STA.out _ (HT.out.below hb)).mono ?_; rintro e w2 ⟨rfl, rfl⟩) | (go_at_call 51; refine (WRI.out _ _ acc t _ hbu ?c1 hb.size).mono ?_; rotate_left; rintro e w4 ⟨rfl, hbu2, hb4⟩; replace hb := hb.trans hb4; clear hbu hb4))
          case c1 => exact hlx
          go_roundw
          case rel => exact ⟨j + n, acc ++ t, by go_num, hjn, by have := HL.out; simp; omega, HE, hbu2, hb⟩
          case measure => simp [intOf]; omega
        | false =>
          rw [hs, if_neg (by simp)] at hst
          rw [hs] at STA
          have HE : Hid (locF l 0 = .inr (j, 62)) := Lib.hid (by rw [HS.out, locF_bad hlt hst]; rfl)
          clear hq HS hst hs
          go_wp2_with (first | (go_at_call 61; refine (P2.out _).mono ?_; rintro e w1 ⟨rfl, rfl⟩; unfold pieceV) | (go_at_call 50; refine (STA.out _ (HT.out.below hb)).mono ?_; rintro e w2 ⟨rfl, rfl⟩) | (go_at_call 62; refine (WRO.out _ _ _).mono ?_; rintro e w4 ⟨rfl, rfl⟩))
          go_ret2
          exact ⟨locPost_bad HE.out, hb.alloc hb.size _⟩
    · obtain rfl : j = l.length := by omega
      have HE : Hid (locF l 0 = .inl acc) := Lib.hid (by rw [HS.out, locF_end (Nat.le_refl _)]; simp [putF])
      clear HS
      go_wp2_with (go_at_call 54; refine (STR.out _ _ acc _ hbu hb.size).mono ?_; rintro e w4 ⟨rfl, hb4⟩; replace hb := hb.trans hb4)
      go_ret2
      exact ⟨⟨_, by rw [HE.out]; rfl, by rw [HE.out]; rfl⟩, hb⟩
end Go.Proofs.YtfjcbodkjjmagaaDoor
