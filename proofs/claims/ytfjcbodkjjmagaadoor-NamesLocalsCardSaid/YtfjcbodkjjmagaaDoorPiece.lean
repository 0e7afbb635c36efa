/-
  names.piece and the reference's piece: contracts. By an AI agent.
-/
import Derived.Test.YtfjcbodkjjmagaaDoorLocal0
import Derived.Test.YtfjcbodkjjmagaaDoorRefSpell
namespace Go.Proofs.YtfjcbodkjjmagaaDoor
open Go.RowKit
set_option maxRecDepth 100000

def pieceV (p : List UInt8 × Nat × Int) : Value := .tuple #[.string (B p.1), .int .i64 (p.2.1 : Int), .int .i32 p.2.2]
theorem pieceV_mk {p : List UInt8 × Nat × Int} {t : List UInt8} {n : Nat} {r : Int} (h : p = (t, n, r)) : Ending.returned (.tuple #[.string (B t), .int .i64 (n : Int), .int .i32 r]) = .returned (pieceV p) := by rw [h]; rfl
theorem pieceV_0 {p : List UInt8 × Nat × Int} {n r : Int} {k : Nat} (h : p = ([], k, r)) (hk : (k : Int) = n) : Ending.returned (.tuple #[.string ⟨#[]⟩, .int .i64 n, .int .i32 r]) = .returned (pieceV p) := by rw [h, ← hk]; rfl
theorem escIx_no (b : UInt8) (h : escB (b.toNat : Int) = false) : ¬ 0 ≤ escIx (b.toNat : Int) := by
  have h2 : ∀ n < 256, escB ((n : Nat) : Int) = false → decide (0 ≤ escIx ((n : Nat) : Int)) = false := by decide +kernel
  exact of_decide_eq_false (h2 b.toNat (by have := b.toNat_lt; omega) h)
theorem escIx_yes (b : UInt8) (h : escB (b.toNat : Int) = true) : 0 ≤ escIx (b.toNat : Int) := by
  have h2 := escB_low _ h
  have h3 := escIx_ok _ h2.1 h2.2
  rw [h] at h3
  exact of_decide_eq_true h3
theorem drop_get {l : List UInt8} {j : Nat} {a : UInt8} {t : List UInt8} (hd : l.drop j = a :: t) (hj : j < l.length) : l[j] = a := by
  have := List.getElem_drop (xs := l) (i := j) (j := 0) (h := by simp; omega)
  simp only [Nat.add_zero] at this
  rw [← this]
  simp only [hd, List.getElem_cons_zero]
theorem drop_get1 {l : List UInt8} {j : Nat} {a b : UInt8} {t : List UInt8} (hd : l.drop j = a :: b :: t) (hj : j + 1 < l.length) : l[j + 1] = b := by
  have := List.getElem_drop (xs := l) (i := j) (j := 1) (h := by simp; omega)
  rw [← this]
  simp only [hd, List.getElem_cons_succ, List.getElem_cons_zero]
theorem drop_len {l : List UInt8} {j : Nat} {r : List UInt8} (hd : l.drop j = r) : r.length = l.length - j := by rw [← hd, List.length_drop]

set_option maxHeartbeats 1600000 in
theorem piece_l (l : List UInt8) (j : Nat) (w : World) (hl : l.length ≤ 140737488351232) (hj : j < l.length) :
    Calls Tryd.prog 61 #[.string (B l), .int .i64 (j : Int)] w fun e w' => e = .returned (pieceV (pieceF l j)) ∧ w' = w := by
  have PER0 : ∀ w, Calls Tryd.prog 52 #[.string (B (l.drop j))] w fun e w' => e = .returned (.bool (percB (l.drop j))) ∧ w' = w := fun w => percent_l (l.drop j) w (by simp; unfold maxLen; omega)
  have IXB := Lib.hid indexByte_esc
  obtain ⟨v, n, hq⟩ : ∃ v n, nextAt l (j : Int) = (v, n) := ⟨_, _, rfl⟩
  have NX := Lib.hid (fun w => hq ▸ next_l l j w (by omega) (by omega))
  have hP : pieceF l j = if percB (l.drop j) = true then ((l.drop j).take 3, 3, -1) else if esc2 (l.drop j) = true then ((l.drop (j + 1)).take 1, 2, -1) else if n = 0 then ([], 0, -3) else if v = 37 ∨ v = 92 then ([], 1, -2) else ((l.drop j).take n, n, v) := by unfold pieceF; rw [hq]
  have hpos : 0 < l.length - j := by omega
  cases hp : percB (l.drop j) with
  | true =>
    rw [hp, if_pos rfl] at hP
    rw [hp] at PER0
    have PER := Lib.hid PER0
    have HE := Lib.hid hP
    have h3 := percB_len hp
    rw [List.length_drop] at h3
    clear PER0 hP hp hq
    go_enter Tryd.func61, Tryd.ntmps61
    go_wp2_with (first | (go_at_call 52; refine (PER.out _).mono ?_; rintro e w1 ⟨rfl, rfl⟩) | (go_at_call 53; refine (IXB.out _ _).mono ?_; rintro e w2 ⟨rfl, rfl⟩) | (go_at_call 49; refine (NX.out _).mono ?_; rintro e w3 ⟨rfl, rfl⟩; unfold pairV) | fail)
    go_ret3
    exact ⟨pieceV_mk HE.out, rfl⟩
  | false =>
    rw [hp, if_neg (by simp)] at hP
    rw [hp] at PER0
    have PER := Lib.hid PER0
    clear PER0 hp
    obtain ⟨a, t, hd⟩ : ∃ a t, l.drop j = a :: t := by
      cases h : l.drop j with
      | nil => have := congrArg List.length h; simp at this; omega
      | cons a t => exact ⟨a, t, rfl⟩
    have ha0 := drop_get hd hj
    have hlen := drop_len hd
    by_cases ha : a = 92
    · have e1 : ((a.toNat : Int) == 92) = true := byte_eq ha
      have hlow := nextAt_low hd (by rw [ha]; decide)
      rw [hq] at hlow
      have hv : v = 92 := by have := (Prod.mk.inj hlow).1; rw [this, ha]; rfl
      have hn : n = 1 := (Prod.mk.inj hlow).2
      rw [hv, hn] at hP
      rcases t with _ | ⟨b, t⟩
      · have h1 : ¬ 1 < l.length - j := by rw [← hlen]; simp
        rw [hd, show esc2 [a] = false from rfl, if_neg (by simp), if_neg (by simp), if_pos (.inr rfl)] at hP
        have HE := Lib.hid hP
        clear hP hq hlow hv hn hd hlen ha
        go_enter Tryd.func61, Tryd.ntmps61
        go_wp2_with (first | (go_at_call 52; refine (PER.out _).mono ?_; rintro e w1 ⟨rfl, rfl⟩) | (go_at_call 53; refine (IXB.out _ _).mono ?_; rintro e w2 ⟨rfl, rfl⟩) | (go_at_call 49; refine (NX.out _).mono ?_; rintro e w3 ⟨rfl, rfl⟩; unfold pairV) | fail)
        go_ret3
        exact ⟨pieceV_0 HE.out rfl, rfl⟩
      have h1 : 1 < l.length - j := by rw [← hlen]; simp
      have hj1 : j + 1 < l.length := by omega
      have hb0 := drop_get1 hd hj1
      cases he : escB (b.toNat : Int) with
      | true =>
        have hix := escIx_yes b he
        rw [hd, show esc2 (a :: b :: t) = (decide (a = 92) && escB (b.toNat : Int)) from rfl, decide_eq_true ha, he, Bool.true_and, if_pos rfl] at hP
        have HE := Lib.hid hP
        have h2 : 2 ≤ l.length - j := by omega
        clear hP hq hlow hv hn hd hlen ha he
        go_enter Tryd.func61, Tryd.ntmps61
        go_wp2_with (first | (go_at_call 52; refine (PER.out _).mono ?_; rintro e w1 ⟨rfl, rfl⟩) | (go_at_call 53; refine (IXB.out _ _).mono ?_; rintro e w2 ⟨rfl, rfl⟩) | (go_at_call 49; refine (NX.out _).mono ?_; rintro e w3 ⟨rfl, rfl⟩; unfold pairV) | fail)
        go_ret3
        exact ⟨pieceV_mk HE.out, rfl⟩
      | false =>
        have hix := escIx_no b he
        rw [hd, show esc2 (a :: b :: t) = (decide (a = 92) && escB (b.toNat : Int)) from rfl, he, Bool.and_false, if_neg (by simp), if_neg (by simp), if_pos (.inr rfl)] at hP
        have HE := Lib.hid hP
        clear hP hq hlow hv hn hd hlen ha he
        go_enter Tryd.func61, Tryd.ntmps61
        go_wp2_with (first | (go_at_call 52; refine (PER.out _).mono ?_; rintro e w1 ⟨rfl, rfl⟩) | (go_at_call 53; refine (IXB.out _ _).mono ?_; rintro e w2 ⟨rfl, rfl⟩) | (go_at_call 49; refine (NX.out _).mono ?_; rintro e w3 ⟨rfl, rfl⟩; unfold pairV) | fail)
        go_ret3
        exact ⟨pieceV_0 HE.out rfl, rfl⟩
    have e1 : ((a.toNat : Int) == 92) = false := byte_ne ha
    have hes : esc2 (l.drop j) = false := by
      cases h : esc2 (l.drop j) with
      | false => rfl
      | true => obtain ⟨b, t', e, _⟩ := esc2_front h; rw [hd] at e; cases e; exact absurd rfl ha
    rw [hes, if_neg (by simp)] at hP
    by_cases hb : a = 37
    · have e2 : ((a.toNat : Int) == 37) = true := byte_eq hb
      have hlow := nextAt_low hd (by rw [hb]; decide)
      rw [hq] at hlow
      have hv : v = 37 := by have := (Prod.mk.inj hlow).1; rw [this, hb]; rfl
      have hn : n = 1 := (Prod.mk.inj hlow).2
      rw [hv, hn, if_neg (by simp), if_pos (.inl rfl)] at hP
      have HE := Lib.hid hP
      clear hP hq hlow hv hn hd hlen ha hb hes
      go_enter Tryd.func61, Tryd.ntmps61
      go_wp2_with (first | (go_at_call 52; refine (PER.out _).mono ?_; rintro e w1 ⟨rfl, rfl⟩) | (go_at_call 53; refine (IXB.out _ _).mono ?_; rintro e w2 ⟨rfl, rfl⟩) | (go_at_call 49; refine (NX.out _).mono ?_; rintro e w3 ⟨rfl, rfl⟩; unfold pairV) | fail)
      go_ret3
      exact ⟨pieceV_0 HE.out rfl, rfl⟩
    have e2 : ((a.toNat : Int) == 37) = false := byte_ne hb
    by_cases hn : n = 0
    · have e0 : ((n : Int) == 0) = true := by rw [hn]; rfl
      rw [if_pos hn] at hP
      have HE := Lib.hid hP
      clear hP hq hn hd hlen ha hb hes
      go_enter Tryd.func61, Tryd.ntmps61
      go_wp2_with (first | (go_at_call 52; refine (PER.out _).mono ?_; rintro e w1 ⟨rfl, rfl⟩) | (go_at_call 53; refine (IXB.out _ _).mono ?_; rintro e w2 ⟨rfl, rfl⟩) | (go_at_call 49; refine (NX.out _).mono ?_; rintro e w3 ⟨rfl, rfl⟩; unfold pairV) | fail)
      go_ret3
      exact ⟨pieceV_0 HE.out rfl, rfl⟩
    have e0 : ((n : Int) == 0) = false := beq_eq_false_iff_ne.2 (by omega)
    have hbd := nextAt_bound hq hn
    have hjn : n ≤ l.length - j := by omega
    have hv : ¬ (v = 37 ∨ v = 92) := by
      intro h
      have := nextAt_head hq hn (by omega) hd
      rcases h with h | h
      · exact hb (UInt8.toNat_inj.1 (by rw [show (37 : UInt8).toNat = 37 from rfl]; omega))
      · exact ha (UInt8.toNat_inj.1 (by rw [show (92 : UInt8).toNat = 92 from rfl]; omega))
    rw [if_neg hn, if_neg hv] at hP
    have HE := Lib.hid hP
    clear hP hq hn hd hlen ha hb hes hv hbd
    go_enter Tryd.func61, Tryd.ntmps61
    go_wp2_with (first | (go_at_call 52; refine (PER.out _).mono ?_; rintro e w1 ⟨rfl, rfl⟩) | (go_at_call 53; refine (IXB.out _ _).mono ?_; rintro e w2 ⟨rfl, rfl⟩) | (go_at_call 49; refine (NX.out _).mono ?_; rintro e w3 ⟨rfl, rfl⟩; unfold pairV) | fail)
    go_ret3
    exact ⟨pieceV_mk HE.out, rfl⟩

end Go.Proofs.YtfjcbodkjjmagaaDoor
