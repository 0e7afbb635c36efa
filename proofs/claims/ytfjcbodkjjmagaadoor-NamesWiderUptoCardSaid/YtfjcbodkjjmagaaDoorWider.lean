/-
  tesseralaw06.NamesWider: the plain part, and the walk. By an AI agent.
-/
import Derived.Test.YtfjcbodkjjmagaaDoorGWorks
import Derived.Test.YtfjcbodkjjmagaaDoorExt
import Derived.Test.YtfjcbodkjjmagaaDoorLook
namespace Go.Proofs.YtfjcbodkjjmagaaDoor
open Go.RowKit
set_option maxRecDepth 100000

theorem lowB_star (c : UInt8) : lowB c = 42 ↔ c = 42 := by
  rw [← UInt8.toNat_inj, ← UInt8.toNat_inj, lowB_nat]
  have := c.toNat_lt
  split
  · simp; omega
  · rfl
theorem extLoop_front : ∀ (rs x : List (List UInt8)), (∀ p ∈ rs, p ≠ [42]) → extLoop rs (rs ++ x) = true
  | [], x, _ => extLoop_nil _
  | r :: rs, x, h => by
    rw [List.cons_append, extLoop_same (h r (List.mem_cons_self ..)) rfl]
    exact extLoop_front rs x (fun p hp => h p (List.mem_cons_of_mem _ hp))
theorem partsOf_bytes : ∀ (l : List UInt8), ∀ p ∈ partsOf l, ∀ c ∈ p, c ∈ l
  | [], p, hp, c, hc => by simp [partsOf] at hp; subst hp; cases hc
  | x :: r, p, hp, c, hc => by
    have ih := partsOf_bytes r
    unfold partsOf at hp
    split at hp
    · rcases List.mem_cons.1 hp with rfl | hp
      · cases hc
      · exact List.mem_cons_of_mem _ (ih p hp c hc)
    · split at hp
      · next h t e =>
        rcases List.mem_cons.1 hp with rfl | hp
        · rcases List.mem_cons.1 hc with rfl | hc
          · exact List.mem_cons_self ..
          · exact List.mem_cons_of_mem _ (ih h (by rw [e]; simp) c hc)
        · exact List.mem_cons_of_mem _ (ih p (by rw [e]; simp [hp]) c hc)
      · obtain rfl : p = [x] := by simpa using hp
        obtain rfl : c = x := by simpa using hc
        exact List.mem_cons_self ..
/-- a span without a star that matches by its beginning matches by its parts -/
theorem wider {r t : List UInt8} (hs : ∀ c ∈ r, c ≠ 42) (h : basicP r t = true) : extP r t = true := by
  have hlow : ∀ c ∈ lowL r, c ≠ 42 := fun c hc => by
    obtain ⟨d, hd, rfl⟩ := List.mem_map.1 hc
    exact fun e => hs d hd ((lowB_star d).1 e)
  have hno : ∀ p ∈ partsOf (lowL r), p ≠ [42] := fun p hp e => hlow 42 (partsOf_bytes _ p hp 42 (by rw [e]; simp)) rfl
  have hx : ∃ x, partsOf (lowL t) = partsOf (lowL r) ++ x := by
    unfold basicP at h
    rw [Bool.or_eq_true, Bool.or_eq_true, beq_iff_eq, beq_iff_eq, List.isPrefixOf_iff_prefix] at h
    rcases h with (h | h) | ⟨u, hu⟩
    · exact absurd rfl (hlow 42 (by rw [h]; simp))
    · exact ⟨[], by rw [h]; simp⟩
    · exact ⟨partsOf u, by rw [← partsOf_append, ← hu]; simp⟩
  obtain ⟨x, hx⟩ := hx
  obtain ⟨a, rs, hr⟩ := List.exists_cons_of_ne_nil (partsOf_ne (lowL r))
  rw [hr] at hx hno
  rw [extP_cons hr (show partsOf (lowL t) = a :: (rs ++ x) from hx), if_neg (fun hh => hh.2 rfl)]
  exact extLoop_front rs x (fun p hp => hno p (List.mem_cons_of_mem _ hp))
theorem basicP_low (r t : List UInt8) : basicP (lowL r) t = basicP r t := by
  unfold basicP
  rw [lowL_low]
theorem extP_low (r t : List UInt8) : extP r (lowL t) = extP r t := by
  unfold extP
  rw [lowL_low]
theorem basicP_star (t : List UInt8) : basicP [42] t = true := rfl
theorem basicP_self (t : List UInt8) : basicP t t = true := by
  unfold basicP
  rw [beq_self_eq_true, Bool.or_true, Bool.true_or]
theorem extP_star (t : List UInt8) : extP [42] t = true := by
  obtain ⟨b, ts, ht⟩ := List.exists_cons_of_ne_nil (partsOf_ne (lowL t))
  rw [extP_cons (show partsOf (lowL [42]) = [42] :: [] from by decide) ht, if_neg (fun hh => hh.1 rfl)]
  exact extLoop_nil _

set_option maxHeartbeats 3200000 in
theorem wider_walk (r t : List UInt8) (w : World) (hT : TabAt w) (hM : MaxAt w) (hr : r.length ≤ 1048576) (ht : t.length ≤ 1048576) :
    Calls Tryd.prog 11 #[.string (B r), .string (B t)] w fun e w' => e = .returned (.bool true) ∧ Below w.heap.size w w' := by
  have WK := Lib.hid (works_l w hT hM)
  have BA : Hid (∀ u, Calls Tryd.prog 22 #[.string (B r), .string (B t)] u fun e w' => e = .returned (.bool (basicP r t)) ∧ Below u.heap.size u w') := Lib.hid (fun u => basic_l r t u (by omega) (by omega))
  have BL : Hid (∀ u, Calls Tryd.prog 22 #[.string (B (lowL r)), .string (B t)] u fun e w' => e = .returned (.bool (basicP r t)) ∧ Below u.heap.size u w') := Lib.hid (fun u => basicP_low r t ▸ basic_l (lowL r) t u (by rw [lowL_size]; omega) (by omega))
  have BS : Hid (∀ u, Calls Tryd.prog 22 #[.string { data := #[42] }, .string (B t)] u fun e w' => e = .returned (.bool true) ∧ Below u.heap.size u w') := Lib.hid (fun u => basicP_star t ▸ basic_l [42] t u (by simp) (by omega))
  have BT : Hid (∀ u, Calls Tryd.prog 22 #[.string (B t), .string (B t)] u fun e w' => e = .returned (.bool true) ∧ Below u.heap.size u w') := Lib.hid (fun u => basicP_self t ▸ basic_l t t u (by omega) (by omega))
  have EA : Hid (∀ u, Below w.heap.size w u → Calls Tryd.prog 24 #[.string (B r), .string (B t)] u fun e w' => e = .returned (.bool (extP r t)) ∧ Below u.heap.size u w') := Lib.hid (fun u h => extended_l r t u (hM.below h) (by omega) (by omega))
  have EL : Hid (∀ u, Below w.heap.size w u → Calls Tryd.prog 24 #[.string (B r), .string (B (lowL t))] u fun e w' => e = .returned (.bool (extP r t)) ∧ Below u.heap.size u w') := Lib.hid (fun u h => extP_low r t ▸ extended_l r (lowL t) u (hM.below h) (by omega) (by rw [lowL_size]; omega))
  have ES : Hid (∀ u, Below w.heap.size w u → Calls Tryd.prog 24 #[.string { data := #[42] }, .string (B t)] u fun e w' => e = .returned (.bool true) ∧ Below u.heap.size u w') := Lib.hid (fun u h => extP_star t ▸ extended_l [42] t u (hM.below h) (by simp) (by omega))
  have LR := Lib.hid (fun u => lower_l r u (by unfold maxLen; omega))
  have LT := Lib.hid (fun u => lower_l t u (by unfold maxLen; omega))
  have HW := Lib.hid (fun (h : ∀ c ∈ r, c ≠ 42) (hb : basicP r t = true) => wider h hb)
  obtain ⟨p, hp⟩ : ∃ p, basicP r t = p := ⟨_, rfl⟩
  obtain ⟨q, hq⟩ : ∃ q, extP r t = q := ⟨_, rfl⟩
  rw [hp] at BA BL HW
  rw [hq] at EA EL HW
  clear hp hq hT hM
  go_enter Tryd.func11, Tryd.ntmps11
  go_wp2_with fail
  refine WK.out.mono ?_
  rintro e w1 ⟨rfl, hb1⟩
  have HB1 := Lib.hid hb1
  clear hb1 WK
  go_wp2_with fail
  go_loop [5] (fun i => ∃ k : Nat, k ≤ r.length ∧ i = .int .i64 k ∧ Hid (∀ c ∈ r.take k, c ≠ 42)) (fun i => r.length - (intOf i).toNat)
  case atStart => exact ⟨0, Nat.zero_le _, rfl, Lib.hid (by simp)⟩
  case round =>
    obtain ⟨k, hk, rfl, HA⟩ := hrel
    by_cases hlt : k < r.length
    · have HN : Hid (r[k] ≠ 42 → ∀ c ∈ r.take (k + 1), c ≠ 42) := Lib.hid (fun h c hc => by
        rw [List.take_succ_eq_append_getElem hlt] at hc
        rcases List.mem_append.1 hc with hc | hc
        · exact HA.out c hc
        · simp at hc; rw [hc]; exact h)
      obtain ⟨c, hc⟩ : ∃ c, r[k] = c := ⟨_, rfl⟩
      rw [hc] at HN
      by_cases h42 : c = 42
      · have e1 : ((c.toNat : Int) == 42) = true := by rw [h42]; rfl
        clear h42
        go_wp2_with fail
        go_ret
        exact ⟨rfl, HB1.out⟩
      · have e1 : ((c.toNat : Int) == 42) = false := byte_ne (d := 42) h42
        have HN2 := Lib.hid (HN.out h42)
        clear h42 HN HA
        go_wp2_with fail
        go_round
        case rel => exact ⟨k + 1, by omega, by go_num, HN2⟩
        case measure => simp [intOf]; omega
    · obtain rfl : k = r.length := by omega
      have HW2 := HW.out (by have := HA.out; rw [List.take_length] at this; exact this)
      have HPQ : (p = true ∧ q = true) ∨ (p = false ∧ q = true) ∨ (p = false ∧ q = false) := by
        cases p
        · cases q
          · exact .inr (.inr ⟨rfl, rfl⟩)
          · exact .inr (.inl ⟨rfl, rfl⟩)
        · exact .inl ⟨rfl, HW2 rfl⟩
      clear HW HW2 HA
      rcases HPQ with ⟨rfl, rfl⟩ | ⟨rfl, rfl⟩ | ⟨rfl, rfl⟩
      all_goals
        go_wp2_with fail
        refine (BA.out _).mono ?_
        rintro e w2 ⟨rfl, hb2⟩
        have HB2 := Lib.hid (HB1.out.trans (hb2.mono HB1.out.size))
        clear hb2
        go_wp2_with fail
        refine (EA.out _ HB2.out).mono ?_
        rintro e w3 ⟨rfl, hb3⟩
        have HB3 := Lib.hid (HB2.out.trans (hb3.mono HB2.out.size))
        clear hb3
        go_wp2_with fail
        refine (LR.out _).mono ?_
        rintro e w4 ⟨rfl, hb4⟩
        have HB4 := Lib.hid (HB3.out.trans (hb4.mono HB3.out.size))
        clear hb4
        go_wp2_with fail
        refine (BL.out _).mono ?_
        rintro e w5 ⟨rfl, hb5⟩
        have HB5 := Lib.hid (HB4.out.trans (hb5.mono HB4.out.size))
        clear hb5
        go_wp2_with fail
        refine (LT.out _).mono ?_
        rintro e w6 ⟨rfl, hb6⟩
        have HB6 := Lib.hid (HB5.out.trans (hb6.mono HB5.out.size))
        clear hb6
        go_wp2_with fail
        refine (EL.out _ HB6.out).mono ?_
        rintro e w7 ⟨rfl, hb7⟩
        have HB7 := Lib.hid (HB6.out.trans (hb7.mono HB6.out.size))
        clear hb7
        go_wp2_with fail
        refine (BS.out _).mono ?_
        rintro e w8 ⟨rfl, hb8⟩
        have HB8 := Lib.hid (HB7.out.trans (hb8.mono HB7.out.size))
        clear hb8
        go_wp2_with fail
        refine (ES.out _ HB8.out).mono ?_
        rintro e w9 ⟨rfl, hb9⟩
        have HB9 := Lib.hid (HB8.out.trans (hb9.mono HB8.out.size))
        clear hb9
        go_wp2_with fail
        refine (BT.out _).mono ?_
        rintro e w10 ⟨rfl, hb10⟩
        have HB10 := Lib.hid (HB9.out.trans (hb10.mono HB9.out.size))
        clear hb10
        go_wp2_with fail
        go_ret
        exact ⟨rfl, HB10.out⟩
end Go.Proofs.YtfjcbodkjjmagaaDoor
