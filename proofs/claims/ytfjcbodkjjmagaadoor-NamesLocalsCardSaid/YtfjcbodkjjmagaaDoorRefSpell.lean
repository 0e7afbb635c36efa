/-
  The reference's Spell: contract. By an AI agent.
-/
import Derived.Test.YtfjcbodkjjmagaaDoorSpell
import Derived.Test.YtfjcbodkjjmagaaDoorRefLabel
namespace Go.Proofs.YtfjcbodkjjmagaaDoor
open Go.RowKit
set_option maxRecDepth 100000

theorem stands37 (f l : Bool) : standsB 37 f l = false := by cases f <;> cases l <;> decide
theorem stands92 (f l : Bool) : standsB 92 f l = false := by cases f <;> cases l <;> decide

set_option maxHeartbeats 1600000 in
theorem refSpell_l (l : List UInt8) (w : World) (hl : l.length ≤ 16777216) :
    Calls Tryd.prog 21 #[.string (B l)] w fun e w' => e = .returned (spellV (spellF l 0)) ∧ Below w.heap.size w w' := by
  obtain ⟨i0, hi, hz0, hz1, hz2⟩ := info_parts infoByte
  have NEXT := Lib.hid (fun (j : Nat) (hj : j < l.length) (v : Int) (n : Nat) (h : nextAt l j = (v, n)) (w : World) => h ▸ refNext_l l j w (by omega) (by omega))
  have ESC := Lib.hid escapable_any
  go_enter Tryd.func21, Tryd.ntmps21
  go_wp2_with fail
  go_loopw [4, 5] (fun o i wr => ∃ (j : Nat) (acc : List UInt8), i = .int .i64 j ∧ j ≤ l.length ∧ acc.length ≤ 2 * j ∧ Hid (spellF l 0 = (spellF l j).map (acc ++ ·)) ∧ wr.ownsRow w.heap.size 5 1 o acc.length (acc.map U8) ∧ Below w.heap.size w wr) (fun _ i _ => l.length - (intOf i).toNat)
  case atStart => exact ⟨0, [], rfl, Nat.zero_le _, Nat.le_refl _, Lib.hid (by cases spellF l 0 <;> simp), World.ownsRow_nil _ _ _ _, Below.refl _ _⟩
  case round =>
    obtain ⟨j, acc, rfl, hj, hacc, HS, hown, hb⟩ := hrel
    by_cases hlt : j < l.length
    · obtain ⟨v, n, hq⟩ : ∃ v n, nextAt l (j : Int) = (v, n) := ⟨_, _, rfl⟩
      have N2 := Lib.hid (NEXT.out j hlt v n hq)
      have hst : stepS l j = if n = 0 then none else if standsB v (decide (j = 0)) (decide (j + n = l.length)) = true then some ((l.drop j).take n, n) else if percB (l.drop j) = true then some ((l.drop j).take 3, 3) else if escB v = true then some (92 :: (l.drop j).take 1, n) else none := by unfold stepS; rw [hq]
      by_cases hn : n = 0
      · have HE : Hid (spellF l 0 = none) := Lib.hid (by rw [HS.out, spellF_none hlt (by rw [hst, if_pos hn])]; rfl)
        have e0 : ((n : Int) == 0) = true := by rw [hn]; rfl
        clear hq hn HS hst
        go_wp2_with (go_at_call 41; refine (N2.out _).mono ?_; rintro e w1 ⟨rfl, hx1⟩; have hown_ := ownsRow_below hown hx1; clear hown; have hown := hown_; clear hown_; replace hb := hb.trans (hx1.mono hb.size); clear hx1; unfold pairI)
        go_ret2
        exact ⟨spellV_none HE.out, hb⟩
      have e0 : ((n : Int) == 0) = false := beq_eq_false_iff_ne.2 (by omega)
      rw [if_neg hn] at hst
      have hbd := nextAt_bound hq hn
      have hv0 : 0 ≤ v := hbd.2.2.1
      have hjn : j + n ≤ l.length := by omega
      have hjn1 : j < j + n := by omega
      have hsub : j + n - j = n := by omega
      have hmay : ∀ w, Calls Tryd.prog 56 #[.int .i64 v, .bool ((j : Int) == 0), .bool ((j : Int) + (n : Int) == (l.length : Int))] w fun e w' => e = .returned (.bool (standsB v (decide (j = 0)) (decide (j + n = l.length)))) ∧ Below w.heap.size w w' := by
        intro w
        have h1 : ((j : Int) == 0) = decide (j = 0) := by rw [Bool.eq_iff_iff]; simp
        have h2 : ((j : Int) + (n : Int) == (l.length : Int)) = decide (j + n = l.length) := by rw [Bool.eq_iff_iff]; simp; omega
        rw [h1, h2]
        exact may_any v _ _ w
      have MAY := Lib.hid hmay
      have PER := Lib.hid (fun w => refPercent_l l j w (by omega) (by omega))
      clear hmay
      cases hp : percB (l.drop j) with
      | true =>
        have hq2 := percB_next hp
        rw [hq] at hq2
        have hv37 : v = 37 := (Prod.mk.inj hq2).1
        have hs : standsB v (decide (j = 0)) (decide (j + n = l.length)) = false := by rw [hv37]; exact stands37 _ _
        rw [hs, if_neg (by simp), hp, if_pos rfl] at hst
        rw [hp] at PER
        have hp3 := percB_len hp
        have hj3 : j + 3 ≤ l.length := by simp at hp3; omega
        have hsub3 : j + 3 - j = 3 := by omega
        have HE : Hid (spellF l 0 = (spellF l (j + 3)).map ((acc ++ (l.drop j).take 3) ++ ·)) := Lib.hid (by rw [HS.out, spellF_some hlt hst, Option.map_map]; congr 1; funext t; simp)
        have hlen : ((l.drop j).take 3).length = 3 := by simp; omega
        obtain ⟨x, hx⟩ : ∃ x, (l.drop j).take 3 = x := ⟨_, rfl⟩
        rw [hx] at HE hlen
        have HL := Lib.hid hlen
        have hlx : acc.length + x.length ≤ 140737488355328 := by omega
        clear hq hn HS hst hbd hlen hs hp hp3 hq2 hv37
        go_wp2_with (first | (go_at_call 41; refine (N2.out _).mono ?_; rintro e w1 ⟨rfl, hx1⟩; have hown_ := ownsRow_below hown hx1; clear hown; have hown := hown_; clear hown_; replace hb := hb.trans (hx1.mono hb.size); clear hx1; unfold pairI) | (go_at_call 55; refine (PER.out _).mono ?_; rintro e w3 ⟨rfl, rfl⟩) | (at_builtin; refine Lib.wpList_append_own_string _ rfl (.tmp 24) (.tmp 29) 68 9 rfl w.heap.size 5 i0 Tryd.underlying68 Tryd.underlying9 hi hz0 hz1 hz2 _ _ _ rfl hown (B x) (show Value.string (B ((l.drop j).take (j + 3 - j))) = .string (B x) by rw [hsub3, hx]) ?c1 ?c2 hb.size ?_))
        case c1 => have := B_size x; simp; unfold maxLen; omega
        case c2 => have := B_size x; simp; omega
        intro v' w9 hown9 hg9 _
        have hown2 : w9.ownsRow w.heap.size 5 1 v' (acc ++ x).length ((acc ++ x).map U8) := by
          rw [strCells_l] at hown9
          simpa using hown9
        replace hb := hb.grown hg9 hb.size (fun k hk => (hown.lt k hk).1)
        clear hown hown9 hg9
        go_wp2_with fail
        go_roundw
        case rel => exact ⟨j + 3, acc ++ x, by go_num, hj3, by have := HL.out; simp; omega, HE, hown2, hb⟩
        case measure => simp [intOf]; omega
      | false =>
        rw [hp] at PER
        cases hs : standsB v (decide (j = 0)) (decide (j + n = l.length)) with
        | true =>
          rw [hs, if_pos rfl] at hst
          rw [hs] at MAY
          have h37 : (v != 37) = true := by rw [bne_iff_ne]; intro e; rw [e, stands37] at hs; cases hs
          have h92 : (v != 92) = true := by rw [bne_iff_ne]; intro e; rw [e, stands92] at hs; cases hs
          have HE : Hid (spellF l 0 = (spellF l (j + n)).map ((acc ++ (l.drop j).take n) ++ ·)) := Lib.hid (by rw [HS.out, spellF_some hlt hst, Option.map_map]; congr 1; funext t; simp)
          have hlen : ((l.drop j).take n).length = n := by simp; omega
          obtain ⟨x, hx⟩ : ∃ x, (l.drop j).take n = x := ⟨_, rfl⟩
          rw [hx] at HE hlen
          have HL := Lib.hid hlen
          have hlx : acc.length + x.length ≤ 140737488355328 := by omega
          clear hq hn HS hst hbd hlen hs hp
          go_wp2_with (first | (go_at_call 41; refine (N2.out _).mono ?_; rintro e w1 ⟨rfl, hx1⟩; have hown_ := ownsRow_below hown hx1; clear hown; have hown := hown_; clear hown_; replace hb := hb.trans (hx1.mono hb.size); clear hx1; unfold pairI) | (go_at_call 55; refine (PER.out _).mono ?_; rintro e w3 ⟨rfl, rfl⟩) | (go_at_call 56; refine (MAY.out _).mono ?_; rintro e w2 ⟨rfl, hx1⟩; have hown_ := ownsRow_below hown hx1; clear hown; have hown := hown_; clear hown_; replace hb := hb.trans (hx1.mono hb.size); clear hx1) | (at_builtin; refine Lib.wpList_append_own_string _ rfl (.tmp 50) (.tmp 56) 68 9 rfl w.heap.size 5 i0 Tryd.underlying68 Tryd.underlying9 hi hz0 hz1 hz2 _ _ _ rfl hown (B x) (show Value.string (B ((l.drop j).take (j + n - j))) = .string (B x) by rw [hsub, hx]) ?c1 ?c2 hb.size ?_))
          case c1 => have := B_size x; simp; unfold maxLen; omega
          case c2 => have := B_size x; simp; omega
          intro v' w9 hown9 hg9 _
          have hown2 : w9.ownsRow w.heap.size 5 1 v' (acc ++ x).length ((acc ++ x).map U8) := by
            rw [strCells_l] at hown9
            simpa using hown9
          replace hb := hb.grown hg9 hb.size (fun k hk => (hown.lt k hk).1)
          clear hown hown9 hg9
          go_wp2_with fail
          go_roundw
          case rel => exact ⟨j + n, acc ++ x, by go_num, hjn, by have := HL.out; simp; omega, HE, hown2, hb⟩
          case measure => simp [intOf]; omega
        | false =>
          rw [hs, if_neg (by simp), hp, if_neg (by simp)] at hst
          rw [hs] at MAY
          cases he : escB v with
          | true =>
            rw [he, if_pos rfl] at hst
            have hv := escB_low v he
            have hn1 := nextAt_ascii hq hn hv.2
            have HE : Hid (spellF l 0 = (spellF l (j + n)).map ((acc ++ 92 :: (l.drop j).take 1) ++ ·)) := Lib.hid (by rw [HS.out, spellF_some hlt hst, Option.map_map]; congr 1; funext t; simp)
            have hlen : ((l.drop j).take n).length = 1 := by simp; omega
            have hxx : (l.drop j).take 1 = (l.drop j).take n := by rw [hn1]
            rw [hxx] at HE
            obtain ⟨x, hx⟩ : ∃ x, (l.drop j).take n = x := ⟨_, rfl⟩
            rw [hx] at HE hlen
            have HL := Lib.hid hlen
            have hlx : acc.length + x.length + 1 ≤ 140737488355328 := by omega
            have HN1 := Lib.hid hn1
            have c3 : v = 37 ∨ v = 92 ∨ (v ≠ 37 ∧ v ≠ 92) := by omega
            clear hq hn HS hst hbd hlen hs hp hv hn1 hxx
            rcases c3 with h | h | ⟨h, h'⟩
            · have h37 : (v != 37) = false := by rw [h]; rfl
              clear h
              go_wp2_with (first | (go_at_call 41; refine (N2.out _).mono ?_; rintro e w1 ⟨rfl, hx1⟩; have hown_ := ownsRow_below hown hx1; clear hown; have hown := hown_; clear hown_; replace hb := hb.trans (hx1.mono hb.size); clear hx1; unfold pairI) | (go_at_call 55; refine (PER.out _).mono ?_; rintro e w3 ⟨rfl, rfl⟩) | (go_at_call 57; refine (ESC.out v _).mono ?_; rintro e w5 ⟨rfl, rfl⟩) | (at_builtin; refine wpList_append_own _ rfl (.tmp 61) (.tmp 62) 68 rfl w.heap.size 5 i0 (.int .u8 0) 1 1 Tryd.underlying68 hi hz0 hz1 hz2 rfl (by decide) _ _ _ rfl (hown.alloc _) _ 1 1 [.int .u8 92] rfl rfl ?d1 ?d2 ?d3 ?d4 ?d5 ?_))
              case d1 => exact cell_one _ _ _
              case d2 => intro u hu; simp at hu; subst hu; rfl
              case d3 => unfold maxLen; omega
              case d4 => omega
              case d5 => have := hb.size; simp; omega
              intro v8 w8 hown8 hg8 _
              have hown7 : w8.ownsRow w.heap.size 5 1 v8 (acc ++ [92]).length ((acc ++ [92]).map U8) := by simpa [U8] using hown8
              replace hb := (hb.alloc hb.size _).grown hg8 (by have := hb.size; simp; omega) (fun k hk => (hown.lt k hk).1)
              clear hown hown8 hg8
              go_wp2_with (at_builtin; refine Lib.wpList_append_own_string _ rfl (.tmp 64) (.tmp 70) 68 9 rfl w.heap.size 5 i0 Tryd.underlying68 Tryd.underlying9 hi hz0 hz1 hz2 _ _ _ rfl hown7 (B x) (show Value.string (B ((l.drop j).take (j + n - j))) = .string (B x) by rw [hsub, hx]) ?c1 ?c2 hb.size ?_)
              case c1 => have := B_size x; simp; unfold maxLen; omega
              case c2 => have := B_size x; simp; omega
              intro v' w9 hown9 hg9 _
              have hown2 : w9.ownsRow w.heap.size 5 1 v' (acc ++ 92 :: x).length ((acc ++ 92 :: x).map U8) := by
                rw [strCells_l] at hown9
                have e : (acc ++ 92 :: x).length = (acc ++ [92]).length + x.length := by simp; omega
                rw [e]
                simpa using hown9
              replace hb := hb.grown hg9 hb.size (fun k hk => (hown7.lt k hk).1)
              clear hown7 hown9 hg9
              go_wp2_with fail
              go_roundw
              case rel => exact ⟨j + n, acc ++ 92 :: x, by go_num, hjn, by have := HL.out; have := HN1.out; simp; omega, HE, hown2, hb⟩
              case measure => simp [intOf]; omega
            · have h37 : (v != 37) = true := by rw [h]; rfl
              have h92 : (v != 92) = false := by rw [h]; rfl
              clear h
              go_wp2_with (first | (go_at_call 41; refine (N2.out _).mono ?_; rintro e w1 ⟨rfl, hx1⟩; have hown_ := ownsRow_below hown hx1; clear hown; have hown := hown_; clear hown_; replace hb := hb.trans (hx1.mono hb.size); clear hx1; unfold pairI) | (go_at_call 55; refine (PER.out _).mono ?_; rintro e w3 ⟨rfl, rfl⟩) | (go_at_call 57; refine (ESC.out v _).mono ?_; rintro e w5 ⟨rfl, rfl⟩) | (at_builtin; refine wpList_append_own _ rfl (.tmp 61) (.tmp 62) 68 rfl w.heap.size 5 i0 (.int .u8 0) 1 1 Tryd.underlying68 hi hz0 hz1 hz2 rfl (by decide) _ _ _ rfl (hown.alloc _) _ 1 1 [.int .u8 92] rfl rfl ?d1 ?d2 ?d3 ?d4 ?d5 ?_))
              case d1 => exact cell_one _ _ _
              case d2 => intro u hu; simp at hu; subst hu; rfl
              case d3 => unfold maxLen; omega
              case d4 => omega
              case d5 => have := hb.size; simp; omega
              intro v8 w8 hown8 hg8 _
              have hown7 : w8.ownsRow w.heap.size 5 1 v8 (acc ++ [92]).length ((acc ++ [92]).map U8) := by simpa [U8] using hown8
              replace hb := (hb.alloc hb.size _).grown hg8 (by have := hb.size; simp; omega) (fun k hk => (hown.lt k hk).1)
              clear hown hown8 hg8
              go_wp2_with (at_builtin; refine Lib.wpList_append_own_string _ rfl (.tmp 64) (.tmp 70) 68 9 rfl w.heap.size 5 i0 Tryd.underlying68 Tryd.underlying9 hi hz0 hz1 hz2 _ _ _ rfl hown7 (B x) (show Value.string (B ((l.drop j).take (j + n - j))) = .string (B x) by rw [hsub, hx]) ?c1 ?c2 hb.size ?_)
              case c1 => have := B_size x; simp; unfold maxLen; omega
              case c2 => have := B_size x; simp; omega
              intro v' w9 hown9 hg9 _
              have hown2 : w9.ownsRow w.heap.size 5 1 v' (acc ++ 92 :: x).length ((acc ++ 92 :: x).map U8) := by
                rw [strCells_l] at hown9
                have e : (acc ++ 92 :: x).length = (acc ++ [92]).length + x.length := by simp; omega
                rw [e]
                simpa using hown9
              replace hb := hb.grown hg9 hb.size (fun k hk => (hown7.lt k hk).1)
              clear hown7 hown9 hg9
              go_wp2_with fail
              go_roundw
              case rel => exact ⟨j + n, acc ++ 92 :: x, by go_num, hjn, by have := HL.out; have := HN1.out; simp; omega, HE, hown2, hb⟩
              case measure => simp [intOf]; omega
            · have h37 : (v != 37) = true := by rw [bne_iff_ne]; exact h
              have h92 : (v != 92) = true := by rw [bne_iff_ne]; exact h'
              clear h h'
              go_wp2_with (first | (go_at_call 41; refine (N2.out _).mono ?_; rintro e w1 ⟨rfl, hx1⟩; have hown_ := ownsRow_below hown hx1; clear hown; have hown := hown_; clear hown_; replace hb := hb.trans (hx1.mono hb.size); clear hx1; unfold pairI) | (go_at_call 55; refine (PER.out _).mono ?_; rintro e w3 ⟨rfl, rfl⟩) | (go_at_call 56; refine (MAY.out _).mono ?_; rintro e w2 ⟨rfl, hx1⟩; have hown_ := ownsRow_below hown hx1; clear hown; have hown := hown_; clear hown_; replace hb := hb.trans (hx1.mono hb.size); clear hx1) | (go_at_call 57; refine (ESC.out v _).mono ?_; rintro e w5 ⟨rfl, rfl⟩) | (at_builtin; refine wpList_append_own _ rfl (.tmp 61) (.tmp 62) 68 rfl w.heap.size 5 i0 (.int .u8 0) 1 1 Tryd.underlying68 hi hz0 hz1 hz2 rfl (by decide) _ _ _ rfl (hown.alloc _) _ 1 1 [.int .u8 92] rfl rfl ?d1 ?d2 ?d3 ?d4 ?d5 ?_))
              case d1 => exact cell_one _ _ _
              case d2 => intro u hu; simp at hu; subst hu; rfl
              case d3 => unfold maxLen; omega
              case d4 => omega
              case d5 => have := hb.size; simp; omega
              intro v8 w8 hown8 hg8 _
              have hown7 : w8.ownsRow w.heap.size 5 1 v8 (acc ++ [92]).length ((acc ++ [92]).map U8) := by simpa [U8] using hown8
              replace hb := (hb.alloc hb.size _).grown hg8 (by have := hb.size; simp; omega) (fun k hk => (hown.lt k hk).1)
              clear hown hown8 hg8
              go_wp2_with (at_builtin; refine Lib.wpList_append_own_string _ rfl (.tmp 64) (.tmp 70) 68 9 rfl w.heap.size 5 i0 Tryd.underlying68 Tryd.underlying9 hi hz0 hz1 hz2 _ _ _ rfl hown7 (B x) (show Value.string (B ((l.drop j).take (j + n - j))) = .string (B x) by rw [hsub, hx]) ?c1 ?c2 hb.size ?_)
              case c1 => have := B_size x; simp; unfold maxLen; omega
              case c2 => have := B_size x; simp; omega
              intro v' w9 hown9 hg9 _
              have hown2 : w9.ownsRow w.heap.size 5 1 v' (acc ++ 92 :: x).length ((acc ++ 92 :: x).map U8) := by
                rw [strCells_l] at hown9
                have e : (acc ++ 92 :: x).length = (acc ++ [92]).length + x.length := by simp; omega
                rw [e]
                simpa using hown9
              replace hb := hb.grown hg9 hb.size (fun k hk => (hown7.lt k hk).1)
              clear hown7 hown9 hg9
              go_wp2_with fail
              go_roundw
              case rel => exact ⟨j + n, acc ++ 92 :: x, by go_num, hjn, by have := HL.out; have := HN1.out; simp; omega, HE, hown2, hb⟩
              case measure => simp [intOf]; omega
          | false =>
            rw [he, if_neg (by simp)] at hst
            have HE : Hid (spellF l 0 = none) := Lib.hid (by rw [HS.out, spellF_none hlt hst]; rfl)
            have c3 : v = 37 ∨ v = 92 ∨ (v ≠ 37 ∧ v ≠ 92) := by omega
            clear hq hn HS hst hbd hs hp
            rcases c3 with h | h | ⟨h, h'⟩
            · have h37 : (v != 37) = false := by rw [h]; rfl
              clear h
              go_wp2_with (first | (go_at_call 41; refine (N2.out _).mono ?_; rintro e w1 ⟨rfl, hx1⟩; have hown_ := ownsRow_below hown hx1; clear hown; have hown := hown_; clear hown_; replace hb := hb.trans (hx1.mono hb.size); clear hx1; unfold pairI) | (go_at_call 55; refine (PER.out _).mono ?_; rintro e w3 ⟨rfl, rfl⟩) | (go_at_call 57; refine (ESC.out v _).mono ?_; rintro e w5 ⟨rfl, rfl⟩))
              go_ret2
              exact ⟨spellV_none HE.out, hb⟩
            · have h37 : (v != 37) = true := by rw [h]; rfl
              have h92 : (v != 92) = false := by rw [h]; rfl
              clear h
              go_wp2_with (first | (go_at_call 41; refine (N2.out _).mono ?_; rintro e w1 ⟨rfl, hx1⟩; have hown_ := ownsRow_below hown hx1; clear hown; have hown := hown_; clear hown_; replace hb := hb.trans (hx1.mono hb.size); clear hx1; unfold pairI) | (go_at_call 55; refine (PER.out _).mono ?_; rintro e w3 ⟨rfl, rfl⟩) | (go_at_call 57; refine (ESC.out v _).mono ?_; rintro e w5 ⟨rfl, rfl⟩))
              go_ret2
              exact ⟨spellV_none HE.out, hb⟩
            · have h37 : (v != 37) = true := by rw [bne_iff_ne]; exact h
              have h92 : (v != 92) = true := by rw [bne_iff_ne]; exact h'
              clear h h'
              go_wp2_with (first | (go_at_call 41; refine (N2.out _).mono ?_; rintro e w1 ⟨rfl, hx1⟩; have hown_ := ownsRow_below hown hx1; clear hown; have hown := hown_; clear hown_; replace hb := hb.trans (hx1.mono hb.size); clear hx1; unfold pairI) | (go_at_call 55; refine (PER.out _).mono ?_; rintro e w3 ⟨rfl, rfl⟩) | (go_at_call 56; refine (MAY.out _).mono ?_; rintro e w2 ⟨rfl, hx1⟩; have hown_ := ownsRow_below hown hx1; clear hown; have hown := hown_; clear hown_; replace hb := hb.trans (hx1.mono hb.size); clear hx1) | (go_at_call 57; refine (ESC.out v _).mono ?_; rintro e w5 ⟨rfl, rfl⟩))
              go_ret2
              exact ⟨spellV_none HE.out, hb⟩
    · obtain rfl : j = l.length := by omega
      have HE : Hid (spellF l 0 = some acc) := Lib.hid (by rw [HS.out, spellF_end (Nat.le_refl _)]; simp)
      have hback := bytes_back (P := Tryd.prog) 68 9 Tryd.underlying68 Tryd.underlying5 Tryd.underlying9 hown
      clear HS
      go_wp2_with fail
      go_ret2
      exact ⟨spellV_some HE.out, hb⟩
end Go.Proofs.YtfjcbodkjjmagaaDoor
