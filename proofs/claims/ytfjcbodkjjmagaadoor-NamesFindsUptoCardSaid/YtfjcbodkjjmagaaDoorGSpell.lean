/-
  names.Spell: contract. By an AI agent.
  The reference's LabelAt: contract. By an AI agent.
  The reference's Spell: contract. By an AI agent.
-/
import Derived.Test.YtfjcbodkjjmagaaDoorGChars
import Derived.Test.YtfjcbodkjjmagaaDoorBuilder
import Derived.Test.YtfjcbodkjjmagaaDoorGUtf
namespace Go.Proofs.YtfjcbodkjjmagaaDoor
open Go.RowKit
set_option maxRecDepth 100000

/-- what Spell answers -/
def spellV (o : Option (List UInt8)) : Value := .tuple #[.string (B (o.getD [])), .bool o.isSome]
theorem spellV_none {o : Option (List UInt8)} (h : o = none) : Ending.returned (.tuple #[.string ⟨#[]⟩, .bool false]) = .returned (spellV o) := by rw [h]; rfl
theorem spellV_some {o : Option (List UInt8)} {t : List UInt8} (h : o = some t) : Ending.returned (.tuple #[.string (B t), .bool true]) = .returned (spellV o) := by rw [h]; rfl
theorem builderString_l (B_ b : Nat) (l : List UInt8) (w : World) (h : BuildsB w B_ b l) (hBw : B_ ≤ w.heap.size) :
    Calls Tryd.prog 54 #[.pointer (some ⟨b, 0, none⟩)] w fun e w' => e = .returned (.string (B l)) ∧ Below B_ w w' :=
  Tryd.Builder_String_any B_ b l w h hBw

theorem cat92 (m : List UInt8) : (⟨#[92]⟩ : ByteArray) ++ B m = B (92 :: m) := B_append [92] m
attribute [go_sem] cat92

set_option maxHeartbeats 1600000 in
theorem spell_l (l : List UInt8) (w : World) (hl : l.length ≤ 16777216) (hT : TabAt w) :
    Calls Tryd.prog 20 #[.string (B l)] w fun e w' => e = .returned (spellV (spellF l 0)) ∧ Below w.heap.size w w' := by
  have NEXT := Lib.hid (fun (j : Nat) (hj : j < l.length) (v : Int) (n : Nat) (h : nextAt l j = (v, n)) (w : World) => h ▸ next_l l j w (by omega) (by omega))
  have WRI := Lib.hid writeString_l
  have STR := Lib.hid builderString_l
  have IXB := Lib.hid indexByte_esc
  have HT := Lib.hid hT
  clear hT
  go_enter Tryd.func20, Tryd.ntmps20
  go_wp2_with fail
  go_loopw [5] (fun i wr => ∃ (j : Nat) (acc : List UInt8), i = .int .i64 j ∧ j ≤ l.length ∧ acc.length ≤ 2 * j ∧ Hid (spellF l 0 = (spellF l j).map (acc ++ ·)) ∧ BuildsB wr w.heap.size w.heap.size acc ∧ Below w.heap.size w wr) (fun i _ => l.length - (intOf i).toNat)
  case atStart => exact ⟨0, [], rfl, Nat.zero_le _, Nat.le_refl _, Lib.hid (by cases spellF l 0 <;> simp), Lib.fresh_isBuilder _ _ _, (Below.refl _ _).alloc (Nat.le_refl _) _⟩
  case round =>
    obtain ⟨j, acc, rfl, hj, hacc, HS, hbu, hb⟩ := hrel
    by_cases hlt : j < l.length
    · obtain ⟨v, n, hq⟩ : ∃ v n, nextAt l (j : Int) = (v, n) := ⟨_, _, rfl⟩
      have N2 := Lib.hid (NEXT.out j hlt v n hq)
      have hst : stepS l j = if n = 0 then none else if standsB v (decide (j = 0)) (decide (j + n = l.length)) = true then some ((l.drop j).take n, n) else if percB (l.drop j) = true then some ((l.drop j).take 3, 3) else if escB v = true then some (92 :: (l.drop j).take 1, n) else none := by unfold stepS; rw [hq]
      by_cases hn : n = 0
      · have HE : Hid (spellF l 0 = none) := Lib.hid (by rw [HS.out, spellF_none hlt (by rw [hst, if_pos hn])]; rfl)
        have e0 : ((n : Int) == 0) = true := by rw [hn]; rfl
        clear hq hn HS hst
        go_wp2_with (go_at_call 49; refine (N2.out _).mono ?_; rintro e w1 ⟨rfl, rfl⟩; unfold pairV)
        go_ret2
        exact ⟨spellV_none HE.out, hb⟩
      have e0 : ((n : Int) == 0) = false := beq_eq_false_iff_ne.2 (by omega)
      rw [if_neg hn] at hst
      have hbd := nextAt_bound hq hn
      have hv0 : 0 ≤ v := hbd.2.2.1
      have hjn : j + n ≤ l.length := by omega
      have hjn1 : j < j + n := by omega
      have hsub : j + n - j = n := by omega
      have STA : Hid (∀ w, TabAt w → Calls Tryd.prog 50 #[.int .i32 v, .bool ((j : Int) == 0), .bool ((j : Int) + (n : Int) == (l.length : Int))] w fun e w' => e = .returned (.bool (standsB v (decide (j = 0)) (decide (j + n = l.length)))) ∧ w' = w) := by
        refine Lib.hid (fun w h => ?_)
        have h1 : ((j : Int) == 0) = decide (j = 0) := by rw [Bool.eq_iff_iff]; simp
        have h2 : ((j : Int) + (n : Int) == (l.length : Int)) = decide (j + n = l.length) := by rw [Bool.eq_iff_iff]; simp; omega
        rw [h1, h2]
        exact stands_any v _ _ w h
      have PER : Hid (∀ w, Calls Tryd.prog 52 #[.string (B (l.drop j))] w fun e w' => e = .returned (.bool (percB (l.drop j))) ∧ w' = w) := Lib.hid (fun w => percent_l (l.drop j) w (by simp; unfold maxLen; omega))
      cases hs : standsB v (decide (j = 0)) (decide (j + n = l.length)) with
      | true =>
        rw [hs, if_pos rfl] at hst
        have HE : Hid (spellF l 0 = (spellF l (j + n)).map ((acc ++ (l.drop j).take n) ++ ·)) := Lib.hid (by rw [HS.out, spellF_some hlt hst, Option.map_map]; congr 1; funext t; simp)
        have hlen : ((l.drop j).take n).length = n := by simp; omega
        obtain ⟨x, hx⟩ : ∃ x, (l.drop j).take n = x := ⟨_, rfl⟩
        rw [hx] at HE hlen
        rw [hs] at STA
        have HL := Lib.hid hlen
        have hlx : acc.length + x.length ≤ 140737488355328 := by omega
        clear hq hn HS hst hbd hlen hs
        go_wp2_with (first | (go_at_call 49; refine (N2.out _).mono ?_; rintro e w1 ⟨rfl, rfl⟩; unfold pairV) | (go_at_call 50; refine (STA.out _ (HT.out.below hb)).mono ?_; rintro e w2 ⟨rfl, rfl⟩) | (go_at_call 51; refine (WRI.out _ _ acc x _ hbu ?c1 hb.size).mono ?_; rotate_left; rintro e w4 ⟨rfl, hbu2, hb4⟩; replace hb := hb.trans hb4; clear hbu hb4))
        case c1 => exact hlx
        go_roundw
        case rel => exact ⟨j + n, acc ++ x, by go_num, hjn, by have := HL.out; simp; omega, HE, hbu2, hb⟩
        case measure => simp [intOf]; omega
      | false =>
        rw [hs] at STA hst
        rw [if_neg (by simp)] at hst
        cases hp : percB (l.drop j) with
        | true =>
          rw [hp, if_pos rfl] at hst
          rw [hp] at PER
          have hp3 := percB_len hp
          have hj3 : j + 3 ≤ l.length := by simp at hp3; omega
          have hsub3 : j + 3 - j = 3 := by omega
          have HE : Hid (spellF l 0 = (spellF l (j + 3)).map ((acc ++ (l.drop j).take 3) ++ ·)) := Lib.hid (by rw [HS.out, spellF_some hlt hst, Option.map_map]; congr 1; funext t; simp)
          have hlen : ((l.drop j).take 3).length = 3 := by simp; omega
          obtain ⟨x, hx⟩ : ∃ x, (l.drop j).take 3 = x := ⟨_, rfl⟩
          rw [hx] at HE hlen
          have HL := Lib.hid hlen
          have hlx : acc.length + x.length ≤ 140737488355328 := by omega
          clear hq hn HS hst hbd hlen hs hp hp3
          go_wp2_with (first | (go_at_call 49; refine (N2.out _).mono ?_; rintro e w1 ⟨rfl, rfl⟩; unfold pairV) | (go_at_call 50; refine (STA.out _ (HT.out.below hb)).mono ?_; rintro e w2 ⟨rfl, rfl⟩) | (go_at_call 52; refine (PER.out _).mono ?_; rintro e w3 ⟨rfl, rfl⟩) | (go_at_call 51; refine (WRI.out _ _ acc x _ hbu ?c1 hb.size).mono ?_; rotate_left; rintro e w4 ⟨rfl, hbu2, hb4⟩; replace hb := hb.trans hb4; clear hbu hb4))
          case c1 => exact hlx
          go_roundw
          case rel => exact ⟨j + 3, acc ++ x, by go_num, hj3, by have := HL.out; simp; omega, HE, hbu2, hb⟩
          case measure => simp [intOf]; omega
        | false =>
          rw [hp] at PER hst
          rw [if_neg (by simp)] at hst
          cases he : escB v with
          | true =>
            rw [he, if_pos rfl] at hst
            have hv := escB_low v he
            have hv1 : v < 128 := hv.2
            have hix : 0 ≤ escIx v := by have h := escIx_ok v hv.1 hv1; rw [he] at h; simpa using h
            have hn1 := nextAt_ascii hq hn hv1
            have hj1 : j + 1 ≤ l.length := by omega
            have hsub1 : j + 1 - j = 1 := by omega
            have HE : Hid (spellF l 0 = (spellF l (j + n)).map ((acc ++ 92 :: (l.drop j).take 1) ++ ·)) := Lib.hid (by rw [HS.out, spellF_some hlt hst, Option.map_map]; congr 1; funext t; simp)
            have hlen : ((l.drop j).take 1).length = 1 := by simp; omega
            obtain ⟨x, hx⟩ : ∃ x, (l.drop j).take 1 = x := ⟨_, rfl⟩
            rw [hx] at HE hlen
            have HL := Lib.hid hlen
            have hlx : acc.length + (92 :: x).length ≤ 140737488355328 := by simp; omega
            have hxl : x.length ≤ 2 := by omega
            have HN1 := Lib.hid hn1
            clear hq hn HS hst hbd hlen hs hp he hv hn1
            go_wp2_with (first | (go_at_call 49; refine (N2.out _).mono ?_; rintro e w1 ⟨rfl, rfl⟩; unfold pairV) | (go_at_call 50; refine (STA.out _ (HT.out.below hb)).mono ?_; rintro e w2 ⟨rfl, rfl⟩) | (go_at_call 52; refine (PER.out _).mono ?_; rintro e w3 ⟨rfl, rfl⟩) | (go_at_call 53; refine (IXB.out v _).mono ?_; rintro e w5 ⟨rfl, rfl⟩) | (go_at_call 51; refine (WRI.out _ _ acc (92 :: x) _ hbu ?c1 hb.size).mono ?_; rotate_left; rintro e w4 ⟨rfl, hbu2, hb4⟩; replace hb := hb.trans hb4; clear hbu hb4))
            case c1 => exact hlx
            go_roundw
            case rel => exact ⟨j + n, acc ++ 92 :: x, by go_num, hjn, by have := HL.out; have := HN1.out; simp; omega, HE, hbu2, hb⟩
            case measure => simp [intOf]; omega
          | false =>
            rw [he, if_neg (by simp)] at hst
            have HE : Hid (spellF l 0 = none) := Lib.hid (by rw [HS.out, spellF_none hlt hst]; rfl)
            by_cases hv1 : v < 128
            · have hix : ¬ 0 ≤ escIx v := by have h := escIx_ok v hv0 hv1; rw [he] at h; simpa using h
              clear hq hn HS hst hbd hs hp he
              go_wp2_with (first | (go_at_call 49; refine (N2.out _).mono ?_; rintro e w1 ⟨rfl, rfl⟩; unfold pairV) | (go_at_call 50; refine (STA.out _ (HT.out.below hb)).mono ?_; rintro e w2 ⟨rfl, rfl⟩) | (go_at_call 52; refine (PER.out _).mono ?_; rintro e w3 ⟨rfl, rfl⟩) | (go_at_call 53; refine (IXB.out v _).mono ?_; rintro e w5 ⟨rfl, rfl⟩))
              go_ret2
              exact ⟨spellV_none HE.out, hb⟩
            · clear hq hn HS hst hbd hs hp he
              go_wp2_with (first | (go_at_call 49; refine (N2.out _).mono ?_; rintro e w1 ⟨rfl, rfl⟩; unfold pairV) | (go_at_call 50; refine (STA.out _ (HT.out.below hb)).mono ?_; rintro e w2 ⟨rfl, rfl⟩) | (go_at_call 52; refine (PER.out _).mono ?_; rintro e w3 ⟨rfl, rfl⟩))
              go_ret2
              exact ⟨spellV_none HE.out, hb⟩
    · obtain rfl : j = l.length := by omega
      have HE : Hid (spellF l 0 = some acc) := Lib.hid (by rw [HS.out, spellF_end (Nat.le_refl _)]; simp)
      clear HS
      go_wp2_with (go_at_call 54; refine (STR.out _ _ acc _ hbu hb.size).mono ?_; rintro e w6 ⟨rfl, hb6⟩; replace hb := hb.trans hb6; clear hb6)
      go_ret2
      exact ⟨spellV_some HE.out, hb⟩
end Go.Proofs.YtfjcbodkjjmagaaDoor

namespace Go.Proofs.YtfjcbodkjjmagaaDoor
open Go.RowKit
set_option maxRecDepth 100000

set_option maxHeartbeats 1600000 in
theorem refLabelAt_l (l : List UInt8) (i : Int) (w : World) (hl : l.length ≤ 4611686018427387904) (hi : -9223372036854775808 ≤ i ∧ i ≤ 9223372036854775807) :
    Calls Tryd.prog 14 #[.string (B l), .int .i64 i] w fun e w' => e = .returned (.int .i64 (runF labelB l i : Nat)) ∧ Below w.heap.size w w' := by
  have NEXT := Lib.hid (fun (j : Int) (hj : -9223372036854775808 ≤ j ∧ j ≤ 9223372036854775807) (v : Int) (n : Nat) (h : nextAt l j = (v, n)) (w : World) => h ▸ refNext_l l j w hl hj)
  have ST := Lib.hid refStart_any; have FOL := Lib.hid refFollow_any; have DIG := Lib.hid refDigit_any
  by_cases h0 : i < 0
  · have HE : Hid (runF labelB l i = 0) := Lib.hid (runF_no (nextAt_out (.inl h0)) (.inl rfl))
    go_enter Tryd.func14, Tryd.ntmps14
    go_wp2_with fail
    go_loop [5, 7] (fun b v => b = .int .i64 0 ∧ v = .int .i64 i) (fun _ _ => 0)
    case atStart => exact ⟨rfl, rfl⟩
    case round =>
      obtain ⟨rfl, rfl⟩ := hrel
      go_wp2_with fail
      go_ret
      exact ⟨ret_i64 (by rw [HE.out]; rfl), Below.refl _ _⟩
  obtain ⟨a, rfl⟩ := Int.eq_ofNat_of_zero_le (Int.not_lt.1 h0)
  by_cases h1 : l.length ≤ a
  · have HE : Hid (runF labelB l a = 0) := Lib.hid (runF_no (nextAt_out (.inr (by omega))) (.inl rfl))
    go_enter Tryd.func14, Tryd.ntmps14
    go_wp2_with fail
    go_loop [5, 7] (fun b v => b = .int .i64 0 ∧ v = .int .i64 a) (fun _ _ => 0)
    case atStart => exact ⟨rfl, rfl⟩
    case round =>
      obtain ⟨rfl, rfl⟩ := hrel
      go_wp2_with fail
      go_ret
      exact ⟨ret_i64 (by rw [HE.out]; rfl), Below.refl _ _⟩
  have hal : a < l.length := by omega
  clear h0 h1
  go_enter Tryd.func14, Tryd.ntmps14
  go_wp2_with fail
  go_loopw [5, 6, 7] (fun b f i wr => ∃ (fb : Bool) (j best : Nat), b = .int .i64 best ∧ f = .bool fb ∧ i = .int .i64 j ∧ a ≤ j ∧ j ≤ l.length ∧ best ≤ l.length ∧ Hid (fb = true ∧ j = a ∧ best = 0 ∨ fb = false ∧ a + best ≤ j ∧ runF labelB l a = tailF l j (a + best) - a) ∧ Below w.heap.size w wr) (fun _ _ i _ => l.length - (intOf i).toNat)
  case atStart => exact ⟨true, a, 0, rfl, rfl, rfl, Nat.le_refl _, by omega, Nat.zero_le _, .inl ⟨rfl, rfl, rfl⟩, Below.refl _ _⟩
  case round =>
    obtain ⟨fb, j, best, rfl, rfl, rfl, haj, hjl, hbl, HT, hb⟩ := hrel
    by_cases hlt : j < l.length
    · obtain ⟨x, m, hq⟩ : ∃ x m, nextAt l (j : Int) = (x, m) := ⟨_, _, rfl⟩
      have N2 := Lib.hid (NEXT.out j (by omega) x m hq)
      by_cases hm : m = 0
      · have HE : Hid (runF labelB l a = best) := by
          refine Lib.hid ?_
          rcases HT.out with ⟨_, e1, e2⟩ | ⟨_, _, e2⟩
          · subst e1; rw [runF_no hq (.inl hm), e2]
          · rw [e2, tailF_stop hq (.inl hm)]; omega
        have m0 : ((m : Int) == 0) = true := by rw [hm]; rfl
        clear hq hm HT
        go_wp2_with (first | (go_at_call 41; refine (N2.out _).mono ?_; rintro e w1 ⟨rfl, hx1⟩; replace hb := hb.trans (hx1.mono hb.size); clear hx1; unfold pairI) | (go_at_call 42; refine (ST.out x _).mono ?_; rintro e w2 ⟨rfl, hx1⟩; replace hb := hb.trans (hx1.mono hb.size); clear hx1) | (go_at_call 43; refine (DIG.out x _).mono ?_; rintro e w3 ⟨rfl, rfl⟩) | (go_at_call 44; refine (FOL.out x _).mono ?_; rintro e w4 ⟨rfl, hx1⟩; replace hb := hb.trans (hx1.mono hb.size); clear hx1))
        go_ret
        exact ⟨ret_i64 (by rw [HE.out]), hb⟩
      have m0 : ((m : Int) == 0) = false := beq_eq_false_iff_ne.2 (by omega)
      have hmb := nextAt_bound hq hm
      have hjm : j + m ≤ l.length := by omega
      have hjm1 : j < j + m := by omega
      cases fb with
      | true =>
        have hja : j = a ∧ best = 0 := by rcases HT.out with h | h; exact h.2; cases h.1
        obtain ⟨rfl, rfl⟩ := hja
        cases hlab : labelB x with
        | false =>
          have HE : Hid (runF labelB l j = 0) := Lib.hid (runF_no hq (.inr hlab))
          have hs : startB x = false ∧ digitB x = false := by unfold labelB at hlab; simpa using hlab
          obtain ⟨hs1, hs2⟩ := hs
          clear hq hm HT hmb hlab
          go_wp2_with (first | (go_at_call 41; refine (N2.out _).mono ?_; rintro e w1 ⟨rfl, hx1⟩; replace hb := hb.trans (hx1.mono hb.size); clear hx1; unfold pairI) | (go_at_call 42; refine (ST.out x _).mono ?_; rintro e w2 ⟨rfl, hx1⟩; replace hb := hb.trans (hx1.mono hb.size); clear hx1) | (go_at_call 43; refine (DIG.out x _).mono ?_; rintro e w3 ⟨rfl, rfl⟩) | (go_at_call 44; refine (FOL.out x _).mono ?_; rintro e w4 ⟨rfl, hx1⟩; replace hb := hb.trans (hx1.mono hb.size); clear hx1))
          go_ret
          exact ⟨ret_i64 (by rw [HE.out]; rfl), hb⟩
        | true =>
          have hfo := label_follow hlab
          have hx0 := label_not_dot hlab
          have x0 : (x != 46) = true := by rw [bne_iff_ne]; exact hx0
          have HT2 : Hid (j + (j + m - j) ≤ j + m ∧ runF labelB l j = tailF l (j + m) (j + (j + m - j)) - j) :=
            Lib.hid (⟨by omega, by rw [runF_go hq (by rw [hlab]; rintro (h | h); exact hm h; cases h), show j + (j + m - j) = j + m by omega]⟩)
          cases hs1 : startB x with
          | true =>
            clear hq hm HT hmb hlab hx0
            go_wp2_with (first | (go_at_call 41; refine (N2.out _).mono ?_; rintro e w1 ⟨rfl, hx1⟩; replace hb := hb.trans (hx1.mono hb.size); clear hx1; unfold pairI) | (go_at_call 42; refine (ST.out x _).mono ?_; rintro e w2 ⟨rfl, hx1⟩; replace hb := hb.trans (hx1.mono hb.size); clear hx1) | (go_at_call 43; refine (DIG.out x _).mono ?_; rintro e w3 ⟨rfl, rfl⟩) | (go_at_call 44; refine (FOL.out x _).mono ?_; rintro e w4 ⟨rfl, hx1⟩; replace hb := hb.trans (hx1.mono hb.size); clear hx1))
            go_roundw
            case rel => exact ⟨false, j + m, j + m - j, by go_num, rfl, by go_num, by omega, hjm, by omega, .inr ⟨rfl, HT2.out⟩, hb⟩
            case measure => simp [intOf]; omega
          | false =>
            have hs2 : digitB x = true := by unfold labelB at hlab; rw [hs1] at hlab; simpa using hlab
            clear hq hm HT hmb hlab hx0
            go_wp2_with (first | (go_at_call 41; refine (N2.out _).mono ?_; rintro e w1 ⟨rfl, hx1⟩; replace hb := hb.trans (hx1.mono hb.size); clear hx1; unfold pairI) | (go_at_call 42; refine (ST.out x _).mono ?_; rintro e w2 ⟨rfl, hx1⟩; replace hb := hb.trans (hx1.mono hb.size); clear hx1) | (go_at_call 43; refine (DIG.out x _).mono ?_; rintro e w3 ⟨rfl, rfl⟩) | (go_at_call 44; refine (FOL.out x _).mono ?_; rintro e w4 ⟨rfl, hx1⟩; replace hb := hb.trans (hx1.mono hb.size); clear hx1))
            go_roundw
            case rel => exact ⟨false, j + m, j + m - j, by go_num, rfl, by go_num, by omega, hjm, by omega, .inr ⟨rfl, HT2.out⟩, hb⟩
            case measure => simp [intOf]; omega
      | false =>
        have HT1 : Hid (a + best ≤ j ∧ runF labelB l a = tailF l j (a + best) - a) := by rcases HT.out with h | h; cases h.1; exact Lib.hid h.2
        clear HT
        by_cases hx : x = 46
        · have x0 : (x != 46) = false := by rw [hx]; rfl
          have hfo : followB x = false := by rw [hx]; decide
          have HT2 : Hid (a + best ≤ j + m ∧ runF labelB l a = tailF l (j + m) (a + best) - a) :=
            Lib.hid (⟨by have := HT1.out.1; omega, by rw [HT1.out.2, tailF_go hq (by rintro (h | h); exact hm h; exact h.1 hx), if_pos hx]⟩)
          clear hq hm hmb hx HT1
          go_wp2_with (first | (go_at_call 41; refine (N2.out _).mono ?_; rintro e w1 ⟨rfl, hx1⟩; replace hb := hb.trans (hx1.mono hb.size); clear hx1; unfold pairI) | (go_at_call 42; refine (ST.out x _).mono ?_; rintro e w2 ⟨rfl, hx1⟩; replace hb := hb.trans (hx1.mono hb.size); clear hx1) | (go_at_call 43; refine (DIG.out x _).mono ?_; rintro e w3 ⟨rfl, rfl⟩) | (go_at_call 44; refine (FOL.out x _).mono ?_; rintro e w4 ⟨rfl, hx1⟩; replace hb := hb.trans (hx1.mono hb.size); clear hx1))
          go_roundw
          case rel => exact ⟨false, j + m, best, rfl, rfl, by go_num, by omega, hjm, hbl, .inr ⟨rfl, HT2.out⟩, hb⟩
          case measure => simp [intOf]; omega
        · have x0 : (x != 46) = true := by rw [bne_iff_ne]; exact hx
          cases hfo : followB x with
          | false =>
            have HE : Hid (runF labelB l a = best) := Lib.hid (by rw [HT1.out.2, tailF_stop hq (.inr ⟨hx, hfo⟩)]; omega)
            clear hq hm hmb hx HT1
            go_wp2_with (first | (go_at_call 41; refine (N2.out _).mono ?_; rintro e w1 ⟨rfl, hx1⟩; replace hb := hb.trans (hx1.mono hb.size); clear hx1; unfold pairI) | (go_at_call 42; refine (ST.out x _).mono ?_; rintro e w2 ⟨rfl, hx1⟩; replace hb := hb.trans (hx1.mono hb.size); clear hx1) | (go_at_call 43; refine (DIG.out x _).mono ?_; rintro e w3 ⟨rfl, rfl⟩) | (go_at_call 44; refine (FOL.out x _).mono ?_; rintro e w4 ⟨rfl, hx1⟩; replace hb := hb.trans (hx1.mono hb.size); clear hx1))
            go_ret
            exact ⟨ret_i64 (by rw [HE.out]), hb⟩
          | true =>
            have HT2 : Hid (a + (j + m - a) ≤ j + m ∧ runF labelB l a = tailF l (j + m) (a + (j + m - a)) - a) :=
              Lib.hid (⟨by omega, by rw [HT1.out.2, tailF_go hq (by rw [hfo]; rintro (h | h); exact hm h; cases h.2), if_neg hx, show a + (j + m - a) = j + m by omega]⟩)
            clear hq hm hmb hx HT1
            go_wp2_with (first | (go_at_call 41; refine (N2.out _).mono ?_; rintro e w1 ⟨rfl, hx1⟩; replace hb := hb.trans (hx1.mono hb.size); clear hx1; unfold pairI) | (go_at_call 42; refine (ST.out x _).mono ?_; rintro e w2 ⟨rfl, hx1⟩; replace hb := hb.trans (hx1.mono hb.size); clear hx1) | (go_at_call 43; refine (DIG.out x _).mono ?_; rintro e w3 ⟨rfl, rfl⟩) | (go_at_call 44; refine (FOL.out x _).mono ?_; rintro e w4 ⟨rfl, hx1⟩; replace hb := hb.trans (hx1.mono hb.size); clear hx1))
            go_roundw
            case rel => exact ⟨false, j + m, j + m - a, by go_num, rfl, by go_num, by omega, hjm, by omega, .inr ⟨rfl, HT2.out⟩, hb⟩
            case measure => simp [intOf]; omega
    · obtain rfl : j = l.length := by omega
      have HE : Hid (runF labelB l a = best) := by
        refine Lib.hid ?_
        rcases HT.out with ⟨_, e1, e2⟩ | ⟨_, _, e2⟩
        · omega
        · rw [e2, tailF_stop (nextAt_out (.inr (Int.le_refl _))) (.inl rfl)]; omega
      clear HT
      go_wp2_with fail
      go_ret
      exact ⟨ret_i64 (by rw [HE.out]), hb⟩
end Go.Proofs.YtfjcbodkjjmagaaDoor

namespace Go.Proofs.YtfjcbodkjjmagaaDoor
open Go.RowKit
set_option maxRecDepth 100000

theorem stands37 (f l : Bool) : standsB 37 f l = false := by cases f <;> cases l <;> decide
theorem stands92 (f l : Bool) : standsB 92 f l = false := by cases f <;> cases l <;> decide

set_option maxHeartbeats 1600000 in
theorem refSpell_l (l : List UInt8) (w : World) (hl : l.length ≤ 16777216) :
    Calls Tryd.prog 21 #[.string (B l)] w fun e w' => e = .returned (spellV (spellF l 0)) ∧ Below w.heap.size w w' := by
  obtain ⟨i0, hi, hz0, hz1, hz2⟩ := info_parts infoByte
  have NEXT := Lib.hid (fun (j : Nat) (hj : j < l.length) (v : Int) (n : Nat) (h : nextAt l j = (v, n)) (w : World) => h ▸ refNext_l l j w (by omega) (by omega))
  have ESC := Lib.hid escapable_any
  go_enter Tryd.func21, Tryd.ntmps21
  go_wp2_with fail
  go_loopw [4, 5] (fun o i wr => ∃ (j : Nat) (acc : List UInt8), i = .int .i64 j ∧ j ≤ l.length ∧ acc.length ≤ 2 * j ∧ Hid (spellF l 0 = (spellF l j).map (acc ++ ·)) ∧ wr.ownsRow w.heap.size 5 1 o acc.length (acc.map U8) ∧ Below w.heap.size w wr) (fun _ i _ => l.length - (intOf i).toNat)
  case atStart => exact ⟨0, [], rfl, Nat.zero_le _, Nat.le_refl _, Lib.hid (by cases spellF l 0 <;> simp), World.ownsRow_nil _ _ _ _, Below.refl _ _⟩
  case round =>
    obtain ⟨j, acc, rfl, hj, hacc, HS, hown, hb⟩ := hrel
    by_cases hlt : j < l.length
    · obtain ⟨v, n, hq⟩ : ∃ v n, nextAt l (j : Int) = (v, n) := ⟨_, _, rfl⟩
      have N2 := Lib.hid (NEXT.out j hlt v n hq)
      have hst : stepS l j = if n = 0 then none else if standsB v (decide (j = 0)) (decide (j + n = l.length)) = true then some ((l.drop j).take n, n) else if percB (l.drop j) = true then some ((l.drop j).take 3, 3) else if escB v = true then some (92 :: (l.drop j).take 1, n) else none := by unfold stepS; rw [hq]
      by_cases hn : n = 0
      · have HE : Hid (spellF l 0 = none) := Lib.hid (by rw [HS.out, spellF_none hlt (by rw [hst, if_pos hn])]; rfl)
        have e0 : ((n : Int) == 0) = true := by rw [hn]; rfl
        clear hq hn HS hst
        go_wp2_with (go_at_call 41; refine (N2.out _).mono ?_; rintro e w1 ⟨rfl, hx1⟩; have hown_ := ownsRow_below hown hx1; clear hown; have hown := hown_; clear hown_; replace hb := hb.trans (hx1.mono hb.size); clear hx1; unfold pairI)
        go_ret2
        exact ⟨spellV_none HE.out, hb⟩
      have e0 : ((n : Int) == 0) = false := beq_eq_false_iff_ne.2 (by omega)
      rw [if_neg hn] at hst
      have hbd := nextAt_bound hq hn
      have hv0 : 0 ≤ v := hbd.2.2.1
      have hjn : j + n ≤ l.length := by omega
      have hjn1 : j < j + n := by omega
      have hsub : j + n - j = n := by omega
      have hmay : ∀ w, Calls Tryd.prog 56 #[.int .i64 v, .bool ((j : Int) == 0), .bool ((j : Int) + (n : Int) == (l.length : Int))] w fun e w' => e = .returned (.bool (standsB v (decide (j = 0)) (decide (j + n = l.length)))) ∧ Below w.heap.size w w' := by
        intro w
        have h1 : ((j : Int) == 0) = decide (j = 0) := by rw [Bool.eq_iff_iff]; simp
        have h2 : ((j : Int) + (n : Int) == (l.length : Int)) = decide (j + n = l.length) := by rw [Bool.eq_iff_iff]; simp; omega
        rw [h1, h2]
        exact may_any v _ _ w
      have MAY := Lib.hid hmay
      have PER := Lib.hid (fun w => refPercent_l l j w (by omega) (by omega))
      clear hmay
      cases hp : percB (l.drop j) with
      | true =>
        have hq2 := percB_next hp
        rw [hq] at hq2
        have hv37 : v = 37 := (Prod.mk.inj hq2).1
        have hs : standsB v (decide (j = 0)) (decide (j + n = l.length)) = false := by rw [hv37]; exact stands37 _ _
        rw [hs, if_neg (by simp), hp, if_pos rfl] at hst
        rw [hp] at PER
        have hp3 := percB_len hp
        have hj3 : j + 3 ≤ l.length := by simp at hp3; omega
        have hsub3 : j + 3 - j = 3 := by omega
        have HE : Hid (spellF l 0 = (spellF l (j + 3)).map ((acc ++ (l.drop j).take 3) ++ ·)) := Lib.hid (by rw [HS.out, spellF_some hlt hst, Option.map_map]; congr 1; funext t; simp)
        have hlen : ((l.drop j).take 3).length = 3 := by simp; omega
        obtain ⟨x, hx⟩ : ∃ x, (l.drop j).take 3 = x := ⟨_, rfl⟩
        rw [hx] at HE hlen
        have HL := Lib.hid hlen
        have hlx : acc.length + x.length ≤ 140737488355328 := by omega
        clear hq hn HS hst hbd hlen hs hp hp3 hq2 hv37
        go_wp2_with (first | (go_at_call 41; refine (N2.out _).mono ?_; rintro e w1 ⟨rfl, hx1⟩; have hown_ := ownsRow_below hown hx1; clear hown; have hown := hown_; clear hown_; replace hb := hb.trans (hx1.mono hb.size); clear hx1; unfold pairI) | (go_at_call 55; refine (PER.out _).mono ?_; rintro e w3 ⟨rfl, rfl⟩) | (at_builtin; refine Lib.wpList_append_own_string _ rfl (.tmp 24) (.tmp 29) 68 9 rfl w.heap.size 5 i0 Tryd.underlying68 Tryd.underlying9 hi hz0 hz1 hz2 _ _ _ rfl hown (B x) (show Value.string (B ((l.drop j).take (j + 3 - j))) = .string (B x) by rw [hsub3, hx]) ?c1 ?c2 hb.size ?_))
        case c1 => have := B_size x; simp; unfold maxLen; omega
        case c2 => have := B_size x; simp; omega
        intro v' w9 hown9 hg9 _
        have hown2 : w9.ownsRow w.heap.size 5 1 v' (acc ++ x).length ((acc ++ x).map U8) := by
          rw [strCells_l] at hown9
          simpa using hown9
        replace hb := hb.grown hg9 hb.size (fun k hk => (hown.lt k hk).1)
        clear hown hown9 hg9
        go_wp2_with fail
        go_roundw
        case rel => exact ⟨j + 3, acc ++ x, by go_num, hj3, by have := HL.out; simp; omega, HE, hown2, hb⟩
        case measure => simp [intOf]; omega
      | false =>
        rw [hp] at PER
        cases hs : standsB v (decide (j = 0)) (decide (j + n = l.length)) with
        | true =>
          rw [hs, if_pos rfl] at hst
          rw [hs] at MAY
          have h37 : (v != 37) = true := by rw [bne_iff_ne]; intro e; rw [e, stands37] at hs; cases hs
          have h92 : (v != 92) = true := by rw [bne_iff_ne]; intro e; rw [e, stands92] at hs; cases hs
          have HE : Hid (spellF l 0 = (spellF l (j + n)).map ((acc ++ (l.drop j).take n) ++ ·)) := Lib.hid (by rw [HS.out, spellF_some hlt hst, Option.map_map]; congr 1; funext t; simp)
          have hlen : ((l.drop j).take n).length = n := by simp; omega
          obtain ⟨x, hx⟩ : ∃ x, (l.drop j).take n = x := ⟨_, rfl⟩
          rw [hx] at HE hlen
          have HL := Lib.hid hlen
          have hlx : acc.length + x.length ≤ 140737488355328 := by omega
          clear hq hn HS hst hbd hlen hs hp
          go_wp2_with (first | (go_at_call 41; refine (N2.out _).mono ?_; rintro e w1 ⟨rfl, hx1⟩; have hown_ := ownsRow_below hown hx1; clear hown; have hown := hown_; clear hown_; replace hb := hb.trans (hx1.mono hb.size); clear hx1; unfold pairI) | (go_at_call 55; refine (PER.out _).mono ?_; rintro e w3 ⟨rfl, rfl⟩) | (go_at_call 56; refine (MAY.out _).mono ?_; rintro e w2 ⟨rfl, hx1⟩; have hown_ := ownsRow_below hown hx1; clear hown; have hown := hown_; clear hown_; replace hb := hb.trans (hx1.mono hb.size); clear hx1) | (at_builtin; refine Lib.wpList_append_own_string _ rfl (.tmp 50) (.tmp 56) 68 9 rfl w.heap.size 5 i0 Tryd.underlying68 Tryd.underlying9 hi hz0 hz1 hz2 _ _ _ rfl hown (B x) (show Value.string (B ((l.drop j).take (j + n - j))) = .string (B x) by rw [hsub, hx]) ?c1 ?c2 hb.size ?_))
          case c1 => have := B_size x; simp; unfold maxLen; omega
          case c2 => have := B_size x; simp; omega
          intro v' w9 hown9 hg9 _
          have hown2 : w9.ownsRow w.heap.size 5 1 v' (acc ++ x).length ((acc ++ x).map U8) := by
            rw [strCells_l] at hown9
            simpa using hown9
          replace hb := hb.grown hg9 hb.size (fun k hk => (hown.lt k hk).1)
          clear hown hown9 hg9
          go_wp2_with fail
          go_roundw
          case rel => exact ⟨j + n, acc ++ x, by go_num, hjn, by have := HL.out; simp; omega, HE, hown2, hb⟩
          case measure => simp [intOf]; omega
        | false =>
          rw [hs, if_neg (by simp), hp, if_neg (by simp)] at hst
          rw [hs] at MAY
          cases he : escB v with
          | true =>
            rw [he, if_pos rfl] at hst
            have hv := escB_low v he
            have hn1 := nextAt_ascii hq hn hv.2
            have HE : Hid (spellF l 0 = (spellF l (j + n)).map ((acc ++ 92 :: (l.drop j).take 1) ++ ·)) := Lib.hid (by rw [HS.out, spellF_some hlt hst, Option.map_map]; congr 1; funext t; simp)
            have hlen : ((l.drop j).take n).length = 1 := by simp; omega
            have hxx : (l.drop j).take 1 = (l.drop j).take n := by rw [hn1]
            rw [hxx] at HE
            obtain ⟨x, hx⟩ : ∃ x, (l.drop j).take n = x := ⟨_, rfl⟩
            rw [hx] at HE hlen
            have HL := Lib.hid hlen
            have hlx : acc.length + x.length + 1 ≤ 140737488355328 := by omega
            have HN1 := Lib.hid hn1
            have c3 : v = 37 ∨ v = 92 ∨ (v ≠ 37 ∧ v ≠ 92) := by omega
            clear hq hn HS hst hbd hlen hs hp hv hn1 hxx
            rcases c3 with h | h | ⟨h, h'⟩
            · have h37 : (v != 37) = false := by rw [h]; rfl
              clear h
              go_wp2_with (first | (go_at_call 41; refine (N2.out _).mono ?_; rintro e w1 ⟨rfl, hx1⟩; have hown_ := ownsRow_below hown hx1; clear hown; have hown := hown_; clear hown_; replace hb := hb.trans (hx1.mono hb.size); clear hx1; unfold pairI) | (go_at_call 55; refine (PER.out _).mono ?_; rintro e w3 ⟨rfl, rfl⟩) | (go_at_call 57; refine (ESC.out v _).mono ?_; rintro e w5 ⟨rfl, rfl⟩) | (at_builtin; refine wpList_append_own _ rfl (.tmp 61) (.tmp 62) 68 rfl w.heap.size 5 i0 (.int .u8 0) 1 1 Tryd.underlying68 hi hz0 hz1 hz2 rfl (by decide) _ _ _ rfl (hown.alloc _) _ 1 1 [.int .u8 92] rfl rfl ?d1 ?d2 ?d3 ?d4 ?d5 ?_))
              case d1 => exact cell_one _ _ _
              case d2 => intro u hu; simp at hu; subst hu; rfl
              case d3 => unfold maxLen; omega
              case d4 => omega
              case d5 => have := hb.size; simp; omega
              intro v8 w8 hown8 hg8 _
              have hown7 : w8.ownsRow w.heap.size 5 1 v8 (acc ++ [92]).length ((acc ++ [92]).map U8) := by simpa [U8] using hown8
              replace hb := (hb.alloc hb.size _).grown hg8 (by have := hb.size; simp; omega) (fun k hk => (hown.lt k hk).1)
              clear hown hown8 hg8
              go_wp2_with (at_builtin; refine Lib.wpList_append_own_string _ rfl (.tmp 64) (.tmp 70) 68 9 rfl w.heap.size 5 i0 Tryd.underlying68 Tryd.underlying9 hi hz0 hz1 hz2 _ _ _ rfl hown7 (B x) (show Value.string (B ((l.drop j).take (j + n - j))) = .string (B x) by rw [hsub, hx]) ?c1 ?c2 hb.size ?_)
              case c1 => have := B_size x; simp; unfold maxLen; omega
              case c2 => have := B_size x; simp; omega
              intro v' w9 hown9 hg9 _
              have hown2 : w9.ownsRow w.heap.size 5 1 v' (acc ++ 92 :: x).length ((acc ++ 92 :: x).map U8) := by
                rw [strCells_l] at hown9
                have e : (acc ++ 92 :: x).length = (acc ++ [92]).length + x.length := by simp; omega
                rw [e]
                simpa using hown9
              replace hb := hb.grown hg9 hb.size (fun k hk => (hown7.lt k hk).1)
              clear hown7 hown9 hg9
              go_wp2_with fail
              go_roundw
              case rel => exact ⟨j + n, acc ++ 92 :: x, by go_num, hjn, by have := HL.out; have := HN1.out; simp; omega, HE, hown2, hb⟩
              case measure => simp [intOf]; omega
            · have h37 : (v != 37) = true := by rw [h]; rfl
              have h92 : (v != 92) = false := by rw [h]; rfl
              clear h
              go_wp2_with (first | (go_at_call 41; refine (N2.out _).mono ?_; rintro e w1 ⟨rfl, hx1⟩; have hown_ := ownsRow_below hown hx1; clear hown; have hown := hown_; clear hown_; replace hb := hb.trans (hx1.mono hb.size); clear hx1; unfold pairI) | (go_at_call 55; refine (PER.out _).mono ?_; rintro e w3 ⟨rfl, rfl⟩) | (go_at_call 57; refine (ESC.out v _).mono ?_; rintro e w5 ⟨rfl, rfl⟩) | (at_builtin; refine wpList_append_own _ rfl (.tmp 61) (.tmp 62) 68 rfl w.heap.size 5 i0 (.int .u8 0) 1 1 Tryd.underlying68 hi hz0 hz1 hz2 rfl (by decide) _ _ _ rfl (hown.alloc _) _ 1 1 [.int .u8 92] rfl rfl ?d1 ?d2 ?d3 ?d4 ?d5 ?_))
              case d1 => exact cell_one _ _ _
              case d2 => intro u hu; simp at hu; subst hu; rfl
              case d3 => unfold maxLen; omega
              case d4 => omega
              case d5 => have := hb.size; simp; omega
              intro v8 w8 hown8 hg8 _
              have hown7 : w8.ownsRow w.heap.size 5 1 v8 (acc ++ [92]).length ((acc ++ [92]).map U8) := by simpa [U8] using hown8
              replace hb := (hb.alloc hb.size _).grown hg8 (by have := hb.size; simp; omega) (fun k hk => (hown.lt k hk).1)
              clear hown hown8 hg8
              go_wp2_with (at_builtin; refine Lib.wpList_append_own_string _ rfl (.tmp 64) (.tmp 70) 68 9 rfl w.heap.size 5 i0 Tryd.underlying68 Tryd.underlying9 hi hz0 hz1 hz2 _ _ _ rfl hown7 (B x) (show Value.string (B ((l.drop j).take (j + n - j))) = .string (B x) by rw [hsub, hx]) ?c1 ?c2 hb.size ?_)
              case c1 => have := B_size x; simp; unfold maxLen; omega
              case c2 => have := B_size x; simp; omega
              intro v' w9 hown9 hg9 _
              have hown2 : w9.ownsRow w.heap.size 5 1 v' (acc ++ 92 :: x).length ((acc ++ 92 :: x).map U8) := by
                rw [strCells_l] at hown9
                have e : (acc ++ 92 :: x).length = (acc ++ [92]).length + x.length := by simp; omega
                rw [e]
                simpa using hown9
              replace hb := hb.grown hg9 hb.size (fun k hk => (hown7.lt k hk).1)
              clear hown7 hown9 hg9
              go_wp2_with fail
              go_roundw
              case rel => exact ⟨j + n, acc ++ 92 :: x, by go_num, hjn, by have := HL.out; have := HN1.out; simp; omega, HE, hown2, hb⟩
              case measure => simp [intOf]; omega
            · have h37 : (v != 37) = true := by rw [bne_iff_ne]; exact h
              have h92 : (v != 92) = true := by rw [bne_iff_ne]; exact h'
              clear h h'
              go_wp2_with (first | (go_at_call 41; refine (N2.out _).mono ?_; rintro e w1 ⟨rfl, hx1⟩; have hown_ := ownsRow_below hown hx1; clear hown; have hown := hown_; clear hown_; replace hb := hb.trans (hx1.mono hb.size); clear hx1; unfold pairI) | (go_at_call 55; refine (PER.out _).mono ?_; rintro e w3 ⟨rfl, rfl⟩) | (go_at_call 56; refine (MAY.out _).mono ?_; rintro e w2 ⟨rfl, hx1⟩; have hown_ := ownsRow_below hown hx1; clear hown; have hown := hown_; clear hown_; replace hb := hb.trans (hx1.mono hb.size); clear hx1) | (go_at_call 57; refine (ESC.out v _).mono ?_; rintro e w5 ⟨rfl, rfl⟩) | (at_builtin; refine wpList_append_own _ rfl (.tmp 61) (.tmp 62) 68 rfl w.heap.size 5 i0 (.int .u8 0) 1 1 Tryd.underlying68 hi hz0 hz1 hz2 rfl (by decide) _ _ _ rfl (hown.alloc _) _ 1 1 [.int .u8 92] rfl rfl ?d1 ?d2 ?d3 ?d4 ?d5 ?_))
              case d1 => exact cell_one _ _ _
              case d2 => intro u hu; simp at hu; subst hu; rfl
              case d3 => unfold maxLen; omega
              case d4 => omega
              case d5 => have := hb.size; simp; omega
              intro v8 w8 hown8 hg8 _
              have hown7 : w8.ownsRow w.heap.size 5 1 v8 (acc ++ [92]).length ((acc ++ [92]).map U8) := by simpa [U8] using hown8
              replace hb := (hb.alloc hb.size _).grown hg8 (by have := hb.size; simp; omega) (fun k hk => (hown.lt k hk).1)
              clear hown hown8 hg8
              go_wp2_with (at_builtin; refine Lib.wpList_append_own_string _ rfl (.tmp 64) (.tmp 70) 68 9 rfl w.heap.size 5 i0 Tryd.underlying68 Tryd.underlying9 hi hz0 hz1 hz2 _ _ _ rfl hown7 (B x) (show Value.string (B ((l.drop j).take (j + n - j))) = .string (B x) by rw [hsub, hx]) ?c1 ?c2 hb.size ?_)
              case c1 => have := B_size x; simp; unfold maxLen; omega
              case c2 => have := B_size x; simp; omega
              intro v' w9 hown9 hg9 _
              have hown2 : w9.ownsRow w.heap.size 5 1 v' (acc ++ 92 :: x).length ((acc ++ 92 :: x).map U8) := by
                rw [strCells_l] at hown9
                have e : (acc ++ 92 :: x).length = (acc ++ [92]).length + x.length := by simp; omega
                rw [e]
                simpa using hown9
              replace hb := hb.grown hg9 hb.size (fun k hk => (hown7.lt k hk).1)
              clear hown7 hown9 hg9
              go_wp2_with fail
              go_roundw
              case rel => exact ⟨j + n, acc ++ 92 :: x, by go_num, hjn, by have := HL.out; have := HN1.out; simp; omega, HE, hown2, hb⟩
              case measure => simp [intOf]; omega
          | false =>
            rw [he, if_neg (by simp)] at hst
            have HE : Hid (spellF l 0 = none) := Lib.hid (by rw [HS.out, spellF_none hlt hst]; rfl)
            have c3 : v = 37 ∨ v = 92 ∨ (v ≠ 37 ∧ v ≠ 92) := by omega
            clear hq hn HS hst hbd hs hp
            rcases c3 with h | h | ⟨h, h'⟩
            · have h37 : (v != 37) = false := by rw [h]; rfl
              clear h
              go_wp2_with (first | (go_at_call 41; refine (N2.out _).mono ?_; rintro e w1 ⟨rfl, hx1⟩; have hown_ := ownsRow_below hown hx1; clear hown; have hown := hown_; clear hown_; replace hb := hb.trans (hx1.mono hb.size); clear hx1; unfold pairI) | (go_at_call 55; refine (PER.out _).mono ?_; rintro e w3 ⟨rfl, rfl⟩) | (go_at_call 57; refine (ESC.out v _).mono ?_; rintro e w5 ⟨rfl, rfl⟩))
              go_ret2
              exact ⟨spellV_none HE.out, hb⟩
            · have h37 : (v != 37) = true := by rw [h]; rfl
              have h92 : (v != 92) = false := by rw [h]; rfl
              clear h
              go_wp2_with (first | (go_at_call 41; refine (N2.out _).mono ?_; rintro e w1 ⟨rfl, hx1⟩; have hown_ := ownsRow_below hown hx1; clear hown; have hown := hown_; clear hown_; replace hb := hb.trans (hx1.mono hb.size); clear hx1; unfold pairI) | (go_at_call 55; refine (PER.out _).mono ?_; rintro e w3 ⟨rfl, rfl⟩) | (go_at_call 57; refine (ESC.out v _).mono ?_; rintro e w5 ⟨rfl, rfl⟩))
              go_ret2
              exact ⟨spellV_none HE.out, hb⟩
            · have h37 : (v != 37) = true := by rw [bne_iff_ne]; exact h
              have h92 : (v != 92) = true := by rw [bne_iff_ne]; exact h'
              clear h h'
              go_wp2_with (first | (go_at_call 41; refine (N2.out _).mono ?_; rintro e w1 ⟨rfl, hx1⟩; have hown_ := ownsRow_below hown hx1; clear hown; have hown := hown_; clear hown_; replace hb := hb.trans (hx1.mono hb.size); clear hx1; unfold pairI) | (go_at_call 55; refine (PER.out _).mono ?_; rintro e w3 ⟨rfl, rfl⟩) | (go_at_call 56; refine (MAY.out _).mono ?_; rintro e w2 ⟨rfl, hx1⟩; have hown_ := ownsRow_below hown hx1; clear hown; have hown := hown_; clear hown_; replace hb := hb.trans (hx1.mono hb.size); clear hx1) | (go_at_call 57; refine (ESC.out v _).mono ?_; rintro e w5 ⟨rfl, rfl⟩))
              go_ret2
              exact ⟨spellV_none HE.out, hb⟩
    · obtain rfl : j = l.length := by omega
      have HE : Hid (spellF l 0 = some acc) := Lib.hid (by rw [HS.out, spellF_end (Nat.le_refl _)]; simp)
      have hback := bytes_back (P := Tryd.prog) 68 9 Tryd.underlying68 Tryd.underlying5 Tryd.underlying9 hown
      clear HS
      go_wp2_with fail
      go_ret2
      exact ⟨spellV_some HE.out, hb⟩
end Go.Proofs.YtfjcbodkjjmagaaDoor
