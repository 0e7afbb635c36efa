/-
  names.Spell: contract. By an AI agent.
-/
import Derived.Test.YtfjcbodkjjmagaaDoorStands
import Derived.Test.YtfjcbodkjjmagaaDoorBuilder
import Derived.Test.YtfjcbodkjjmagaaDoorRun
namespace Go.Proofs.YtfjcbodkjjmagaaDoor
open Go.RowKit
set_option maxRecDepth 100000

/-- what Spell answers -/
def spellV (o : Option (List UInt8)) : Value := .tuple #[.string (B (o.getD [])), .bool o.isSome]
theorem spellV_none {o : Option (List UInt8)} (h : o = none) : Ending.returned (.tuple #[.string ⟨#[]⟩, .bool false]) = .returned (spellV o) := by rw [h]; rfl
theorem spellV_some {o : Option (List UInt8)} {t : List UInt8} (h : o = some t) : Ending.returned (.tuple #[.string (B t), .bool true]) = .returned (spellV o) := by rw [h]; rfl
theorem builderString_l (B_ b : Nat) (l : List UInt8) (w : World) (h : BuildsB w B_ b l) (hBw : B_ ≤ w.heap.size) :
    Calls Tryd.prog 54 #[.pointer (some ⟨b, 0, none⟩)] w fun e w' => e = .returned (.string (B l)) ∧ Below B_ w w' :=
  Tryd.Builder_String_any B_ b l w h hBw

theorem cat92 (m : List UInt8) : (⟨#[92]⟩ : ByteArray) ++ B m = B (92 :: m) := B_append [92] m
attribute [go_sem] cat92

set_option maxHeartbeats 1600000 in
theorem spell_l (l : List UInt8) (w : World) (hl : l.length ≤ 16777216) (hT : TabAt w) :
    Calls Tryd.prog 20 #[.string (B l)] w fun e w' => e = .returned (spellV (spellF l 0)) ∧ Below w.heap.size w w' := by
  have NEXT := Lib.hid (fun (j : Nat) (hj : j < l.length) (v : Int) (n : Nat) (h : nextAt l j = (v, n)) (w : World) => h ▸ next_l l j w (by omega) (by omega))
  have WRI := Lib.hid writeString_l
  have STR := Lib.hid builderString_l
  have IXB := Lib.hid indexByte_esc
  have HT := Lib.hid hT
  clear hT
  go_enter Tryd.func20, Tryd.ntmps20
  go_wp2_with fail
  go_loopw [5] (fun i wr => ∃ (j : Nat) (acc : List UInt8), i = .int .i64 j ∧ j ≤ l.length ∧ acc.length ≤ 2 * j ∧ Hid (spellF l 0 = (spellF l j).map (acc ++ ·)) ∧ BuildsB wr w.heap.size w.heap.size acc ∧ Below w.heap.size w wr) (fun i _ => l.length - (intOf i).toNat)
  case atStart => exact ⟨0, [], rfl, Nat.zero_le _, Nat.le_refl _, Lib.hid (by cases spellF l 0 <;> simp), Lib.fresh_isBuilder _ _ _, (Below.refl _ _).alloc (Nat.le_refl _) _⟩
  case round =>
    obtain ⟨j, acc, rfl, hj, hacc, HS, hbu, hb⟩ := hrel
    by_cases hlt : j < l.length
    · obtain ⟨v, n, hq⟩ : ∃ v n, nextAt l (j : Int) = (v, n) := ⟨_, _, rfl⟩
      have N2 := Lib.hid (NEXT.out j hlt v n hq)
      have hst : stepS l j = if n = 0 then none else if standsB v (decide (j = 0)) (decide (j + n = l.length)) = true then some ((l.drop j).take n, n) else if percB (l.drop j) = true then some ((l.drop j).take 3, 3) else if escB v = true then some (92 :: (l.drop j).take 1, n) else none := by unfold stepS; rw [hq]
      by_cases hn : n = 0
      · have HE : Hid (spellF l 0 = none) := Lib.hid (by rw [HS.out, spellF_none hlt (by rw [hst, if_pos hn])]; rfl)
        have e0 : ((n : Int) == 0) = true := by rw [hn]; rfl
        clear hq hn HS hst
        go_wp2_with (go_at_call 49; refine (N2.out _).mono ?_; rintro e w1 ⟨rfl, rfl⟩; unfold pairV)
        go_ret2
        exact ⟨spellV_none HE.out, hb⟩
      have e0 : ((n : Int) == 0) = false := beq_eq_false_iff_ne.2 (by omega)
      rw [if_neg hn] at hst
      have hbd := nextAt_bound hq hn
      have hv0 : 0 ≤ v := hbd.2.2.1
      have hjn : j + n ≤ l.length := by omega
      have hjn1 : j < j + n := by omega
      have hsub : j + n - j = n := by omega
      have STA : Hid (∀ w, TabAt w → Calls Tryd.prog 50 #[.int .i32 v, .bool ((j : Int) == 0), .bool ((j : Int) + (n : Int) == (l.length : Int))] w fun e w' => e = .returned (.bool (standsB v (decide (j = 0)) (decide (j + n = l.length)))) ∧ w' = w) := by
        refine Lib.hid (fun w h => ?_)
        have h1 : ((j : Int) == 0) = decide (j = 0) := by rw [Bool.eq_iff_iff]; simp
        have h2 : ((j : Int) + (n : Int) == (l.length : Int)) = decide (j + n = l.length) := by rw [Bool.eq_iff_iff]; simp; omega
        rw [h1, h2]
        exact stands_any v _ _ w h
      have PER : Hid (∀ w, Calls Tryd.prog 52 #[.string (B (l.drop j))] w fun e w' => e = .returned (.bool (percB (l.drop j))) ∧ w' = w) := Lib.hid (fun w => percent_l (l.drop j) w (by simp; unfold maxLen; omega))
      cases hs : standsB v (decide (j = 0)) (decide (j + n = l.length)) with
      | true =>
        rw [hs, if_pos rfl] at hst
        have HE : Hid (spellF l 0 = (spellF l (j + n)).map ((acc ++ (l.drop j).take n) ++ ·)) := Lib.hid (by rw [HS.out, spellF_some hlt hst, Option.map_map]; congr 1; funext t; simp)
        have hlen : ((l.drop j).take n).length = n := by simp; omega
        obtain ⟨x, hx⟩ : ∃ x, (l.drop j).take n = x := ⟨_, rfl⟩
        rw [hx] at HE hlen
        rw [hs] at STA
        have HL := Lib.hid hlen
        have hlx : acc.length + x.length ≤ 140737488355328 := by omega
        clear hq hn HS hst hbd hlen hs
        go_wp2_with (first | (go_at_call 49; refine (N2.out _).mono ?_; rintro e w1 ⟨rfl, rfl⟩; unfold pairV) | (go_at_call 50; refine (STA.out _ (HT.out.below hb)).mono ?_; rintro e w2 ⟨rfl, rfl⟩) | (go_at_call 51; refine (WRI.out _ _ acc x _ hbu ?c1 hb.size).mono ?_; rotate_left; rintro e w4 ⟨rfl, hbu2, hb4⟩; replace hb := hb.trans hb4; clear hbu hb4))
        case c1 => exact hlx
        go_roundw
        case rel => exact ⟨j + n, acc ++ x, by go_num, hjn, by have := HL.out; simp; omega, HE, hbu2, hb⟩
        case measure => simp [intOf]; omega
      | false =>
        rw [hs] at STA hst
        rw [if_neg (by simp)] at hst
        cases hp : percB (l.drop j) with
        | true =>
          rw [hp, if_pos rfl] at hst
          rw [hp] at PER
          have hp3 := percB_len hp
          have hj3 : j + 3 ≤ l.length := by simp at hp3; omega
          have hsub3 : j + 3 - j = 3 := by omega
          have HE : Hid (spellF l 0 = (spellF l (j + 3)).map ((acc ++ (l.drop j).take 3) ++ ·)) := Lib.hid (by rw [HS.out, spellF_some hlt hst, Option.map_map]; congr 1; funext t; simp)
          have hlen : ((l.drop j).take 3).length = 3 := by simp; omega
          obtain ⟨x, hx⟩ : ∃ x, (l.drop j).take 3 = x := ⟨_, rfl⟩
          rw [hx] at HE hlen
          have HL := Lib.hid hlen
          have hlx : acc.length + x.length ≤ 140737488355328 := by omega
          clear hq hn HS hst hbd hlen hs hp hp3
          go_wp2_with (first | (go_at_call 49; refine (N2.out _).mono ?_; rintro e w1 ⟨rfl, rfl⟩; unfold pairV) | (go_at_call 50; refine (STA.out _ (HT.out.below hb)).mono ?_; rintro e w2 ⟨rfl, rfl⟩) | (go_at_call 52; refine (PER.out _).mono ?_; rintro e w3 ⟨rfl, rfl⟩) | (go_at_call 51; refine (WRI.out _ _ acc x _ hbu ?c1 hb.size).mono ?_; rotate_left; rintro e w4 ⟨rfl, hbu2, hb4⟩; replace hb := hb.trans hb4; clear hbu hb4))
          case c1 => exact hlx
          go_roundw
          case rel => exact ⟨j + 3, acc ++ x, by go_num, hj3, by have := HL.out; simp; omega, HE, hbu2, hb⟩
          case measure => simp [intOf]; omega
        | false =>
          rw [hp] at PER hst
          rw [if_neg (by simp)] at hst
          cases he : escB v with
          | true =>
            rw [he, if_pos rfl] at hst
            have hv := escB_low v he
            have hv1 : v < 128 := hv.2
            have hix : 0 ≤ escIx v := by have h := escIx_ok v hv.1 hv1; rw [he] at h; simpa using h
            have hn1 := nextAt_ascii hq hn hv1
            have hj1 : j + 1 ≤ l.length := by omega
            have hsub1 : j + 1 - j = 1 := by omega
            have HE : Hid (spellF l 0 = (spellF l (j + n)).map ((acc ++ 92 :: (l.drop j).take 1) ++ ·)) := Lib.hid (by rw [HS.out, spellF_some hlt hst, Option.map_map]; congr 1; funext t; simp)
            have hlen : ((l.drop j).take 1).length = 1 := by simp; omega
            obtain ⟨x, hx⟩ : ∃ x, (l.drop j).take 1 = x := ⟨_, rfl⟩
            rw [hx] at HE hlen
            have HL := Lib.hid hlen
            have hlx : acc.length + (92 :: x).length ≤ 140737488355328 := by simp; omega
            have hxl : x.length ≤ 2 := by omega
            have HN1 := Lib.hid hn1
            clear hq hn HS hst hbd hlen hs hp he hv hn1
            go_wp2_with (first | (go_at_call 49; refine (N2.out _).mono ?_; rintro e w1 ⟨rfl, rfl⟩; unfold pairV) | (go_at_call 50; refine (STA.out _ (HT.out.below hb)).mono ?_; rintro e w2 ⟨rfl, rfl⟩) | (go_at_call 52; refine (PER.out _).mono ?_; rintro e w3 ⟨rfl, rfl⟩) | (go_at_call 53; refine (IXB.out v _).mono ?_; rintro e w5 ⟨rfl, rfl⟩) | (go_at_call 51; refine (WRI.out _ _ acc (92 :: x) _ hbu ?c1 hb.size).mono ?_; rotate_left; rintro e w4 ⟨rfl, hbu2, hb4⟩; replace hb := hb.trans hb4; clear hbu hb4))
            case c1 => exact hlx
            go_roundw
            case rel => exact ⟨j + n, acc ++ 92 :: x, by go_num, hjn, by have := HL.out; have := HN1.out; simp; omega, HE, hbu2, hb⟩
            case measure => simp [intOf]; omega
          | false =>
            rw [he, if_neg (by simp)] at hst
            have HE : Hid (spellF l 0 = none) := Lib.hid (by rw [HS.out, spellF_none hlt hst]; rfl)
            by_cases hv1 : v < 128
            · have hix : ¬ 0 ≤ escIx v := by have h := escIx_ok v hv0 hv1; rw [he] at h; simpa using h
              clear hq hn HS hst hbd hs hp he
              go_wp2_with (first | (go_at_call 49; refine (N2.out _).mono ?_; rintro e w1 ⟨rfl, rfl⟩; unfold pairV) | (go_at_call 50; refine (STA.out _ (HT.out.below hb)).mono ?_; rintro e w2 ⟨rfl, rfl⟩) | (go_at_call 52; refine (PER.out _).mono ?_; rintro e w3 ⟨rfl, rfl⟩) | (go_at_call 53; refine (IXB.out v _).mono ?_; rintro e w5 ⟨rfl, rfl⟩))
              go_ret2
              exact ⟨spellV_none HE.out, hb⟩
            · clear hq hn HS hst hbd hs hp he
              go_wp2_with (first | (go_at_call 49; refine (N2.out _).mono ?_; rintro e w1 ⟨rfl, rfl⟩; unfold pairV) | (go_at_call 50; refine (STA.out _ (HT.out.below hb)).mono ?_; rintro e w2 ⟨rfl, rfl⟩) | (go_at_call 52; refine (PER.out _).mono ?_; rintro e w3 ⟨rfl, rfl⟩))
              go_ret2
              exact ⟨spellV_none HE.out, hb⟩
    · obtain rfl : j = l.length := by omega
      have HE : Hid (spellF l 0 = some acc) := Lib.hid (by rw [HS.out, spellF_end (Nat.le_refl _)]; simp)
      clear HS
      go_wp2_with (go_at_call 54; refine (STR.out _ _ acc _ hbu hb.size).mono ?_; rintro e w6 ⟨rfl, hb6⟩; replace hb := hb.trans hb6; clear hb6)
      go_ret2
      exact ⟨spellV_some HE.out, hb⟩
end Go.Proofs.YtfjcbodkjjmagaaDoor
