/-
  The reference's Join: contract. By an AI agent.
-/
import Derived.Test.YtfjcbodkjjmagaaDoorNJoin
import Derived.Test.YtfjcbodkjjmagaaDoorJoined
namespace Go.Proofs.YtfjcbodkjjmagaaDoor
open Go.RowKit
set_option maxRecDepth 100000

set_option maxHeartbeats 3200000 in
theorem refJoin_l (t : TagL) (a1 a2 : Option Addr) (c1 c2 : Nat) (w : World) (h1 : t.vars.length ≤ 4194304) (h2 : t.exts.length ≤ 4194304) (hj : (joinT t).length ≤ 16777216) (hA1 : At w a1 (t.vars.map strV)) (hA2 : At w a2 (t.exts.map strV)) (hn1 : a1 = none → c1 = 0) (hn2 : a2 = none → c2 = 0) :
    Calls Tryd.prog 80 #[.agg (tagCells t a1 a2 c1 c2)] w fun e w' => e = .returned (.string (B (joinT t))) ∧ Below w.heap.size w w' := by
  obtain ⟨i0, hi, hz0, hz1, hz2⟩ := info_parts infoStr
  obtain ⟨lang, ext, script, region, vars, exts, priv⟩ := t
  simp only at h1 h2 hA1 hA2
  unfold tagCells
  simp only
  obtain ⟨W1, hW1⟩ : ∃ W1, w.alloc (.cells #[.string (B lang), .string (B ext), .string (B script), .string (B region), .slice a1 vars.length c1, .slice a2 exts.length c2, .string (B priv)] 43) = W1 := ⟨_, rfl⟩
  obtain ⟨W2, hW2⟩ : ∃ W2, W1.alloc (.cells #[.string (B lang), .string (B ext), .string (B script), .string (B region)] 133) = W2 := ⟨_, rfl⟩
  have s1 : W1.heap.size = w.heap.size + 1 := by rw [← hW1, World.size_alloc]
  have s2 : W2.heap.size = w.heap.size + 1 + 1 := by rw [← hW2, World.size_alloc, s1]
  have hb12 : Below W1.heap.size W1 W2 := by rw [← hW2]; exact (Below.refl _ _).alloc (Nat.le_refl _) _
  have hb01 : Below w.heap.size w W1 := by rw [← hW1]; exact (Below.refl _ _).alloc (Nat.le_refl _) _
  have hb02 : Below w.heap.size w W2 := hb01.trans (hb12.mono hb01.size)
  have TC : Hid (∀ u, Below W1.heap.size W1 u → ∀ (k : Nat) (x : Value), (#[.string (B lang), .string (B ext), .string (B script), .string (B region), .slice a1 vars.length c1, .slice a2 exts.length c2, .string (B priv)] : Array Value)[k]? = some x → u.cell? ⟨w.heap.size, k, none⟩ = some x) :=
    Lib.hid (fun u h k x hx => new_cell (T := 43) (by rw [hW1]; exact h) k x hx)
  have TF : Hid (∀ u, Below W2.heap.size W2 u → ∀ (k : Nat) (h : k < [lang, ext, script, region].length), u.cell? ⟨w.heap.size + 1, k, none⟩ = some (.string (B ([lang, ext, script, region][k])))) :=
    Lib.hid (fun u h k hk => by
      have hx := new_cell (T := 133) (w := W1) (cs := #[.string (B lang), .string (B ext), .string (B script), .string (B region)]) (by rw [hW2]; exact h) k (.string (B ([lang, ext, script, region][k]))) (by
        match k, hk with
        | 0, _ => rfl
        | 1, _ => rfl
        | 2, _ => rfl
        | 3, _ => rfl
        | n + 4, hk => exact absurd hk (by simp))
      rw [s1] at hx
      exact hx)
  have k0 := TC.out W1 (Below.refl _ _) 0 _ rfl
  have k1 := TC.out W1 (Below.refl _ _) 1 _ rfl
  have k2 := TC.out W1 (Below.refl _ _) 2 _ rfl
  have k3 := TC.out W1 (Below.refl _ _) 3 _ rfl
  obtain ⟨four, h4⟩ : ∃ four, [lang, ext, script, region] = four := ⟨_, rfl⟩
  have h4l : four.length = 4 := by rw [← h4]; rfl
  rw [h4] at TF
  have HJ : Hid (joinT ⟨lang, ext, script, region, vars, exts, priv⟩ = joinD (((keepL four ++ vars) ++ exts) ++ keepL [priv])) := Lib.hid (by unfold joinT partsT; rw [← h4])
  have HB := Lib.hid (And.intro hb02 hb12)
  have HAs := Lib.hid (And.intro hA1 hA2)
  clear hb12 hb01 hb02 hA1 hA2
  go_enter Tryd.func80, Tryd.ntmps80
  go_wp2_with fail
  go_loopw [3, 5] (fun v i wr => ∃ k : Nat, i = .int .i64 k ∧ k ≤ 4 ∧ wr.ownsRow (w.heap.size + 1 + 1) 9 1 v (keepL (four.take k)).length ((keepL (four.take k)).map strV) ∧ Below W2.heap.size W2 wr) (fun _ i _ => 4 - (intOf i).toNat)
  case atStart => exact ⟨0, rfl, Nat.zero_le _, World.ownsRow_nil _ _ _ _, Below.refl _ _⟩
  case round =>
    obtain ⟨k, rfl, hk, hown, hb⟩ := hrel
    by_cases hlt : k < 4
    · have hk4 : k < four.length := by omega
      have hcell := TF.out _ hb k hk4
      obtain ⟨x, hx⟩ : ∃ x, four[k] = x := ⟨_, rfl⟩
      have hT := keepL_take hk4
      rw [hx] at hT hcell
      have hlen := keepL_len (four.take k)
      rw [List.length_take] at hlen
      cases hq : (x == []) with
      | true =>
        have HV : Hid (keepL (four.take (k + 1)) = keepL (four.take k)) := Lib.hid (by rw [hT, keepL_no hq, keepL_nil, List.append_nil])
        clear hT hx hlen
        go_wp2_with fail
        go_roundw
        case rel => exact ⟨k + 1, by go_num, hlt, by rw [HV.out]; exact hown, hb⟩
        case measure => simp [intOf]; omega
      | false =>
        have HV : Hid (keepL (four.take (k + 1)) = keepL (four.take k) ++ [x]) := Lib.hid (by rw [hT, keepL_yes hq, keepL_nil])
        obtain ⟨ys, hys⟩ : ∃ ys, keepL (four.take k) = ys := ⟨_, rfl⟩
        rw [hys] at hown HV hlen
        have hsz : w.heap.size + 1 + 1 ≤ wr.heap.size := by have := hb.size; omega
        clear hT hx hys
        go_wp2_with (at_builtin; refine wpList_append_texts rfl (.tmp 23) (.tmp 27) 41 rfl (w.heap.size + 1 + 1) 9 i0 (.string ⟨#[]⟩) 16 Tryd.underlying41 hi hz0 hz1 hz2 rfl _ _ _ rfl (hown.alloc _) (some ⟨wr.heap.size, 0, none⟩) 1 1 [.string (B x)] rfl rfl (at_one _ _ _) (fun h => nomatch h) (fun u hu => by rw [List.mem_singleton.1 hu]; rfl) ?c4 ?c5 (by rw [World.size_alloc]; omega) ?_)
        case c4 => unfold maxLen; omega
        case c5 => omega
        intro v' w1 hown1 hg1 _
        have hb1 : Below W2.heap.size W2 w1 := (hb.alloc hb.size _).grown hg1 (by have := hb.size; simp; omega) (fun j hj => by have := (hown.lt j hj).1; omega)
        have hown2 : w1.ownsRow (w.heap.size + 1 + 1) 9 1 v' (keepL (four.take (k + 1))).length ((keepL (four.take (k + 1))).map strV) := by
          rw [HV.out, List.length_append, List.map_append]
          exact hown1
        have HO := Lib.hid hown2
        clear hown hown1 hg1 hb hown2
        go_wp2_with fail
        go_roundw
        case rel => exact ⟨k + 1, by go_num, hlt, HO.out, hb1⟩
        case measure => simp [intOf]; omega
    · obtain rfl : k = 4 := by omega
      rw [List.take_of_length_le (by omega)] at hown
      have hl4 := keepL_len four
      obtain ⟨ys, hys⟩ : ∃ ys, keepL four = ys := ⟨_, rfl⟩
      rw [hys] at hown HJ hl4
      have hsz : w.heap.size + 1 + 1 ≤ wr.heap.size := by have := hb.size; omega
      have t4 := TC.out _ (HB.out.2.trans (hb.mono HB.out.2.size)) 4 _ rfl
      have hAv := HAs.out.1.below (HB.out.1.trans (hb.mono HB.out.1.size))
      clear hys
      go_wp2_with (at_builtin; refine wpList_append_texts rfl (.tmp 29) (.tmp 31) 41 rfl (w.heap.size + 1 + 1) 9 i0 (.string ⟨#[]⟩) 16 Tryd.underlying41 hi hz0 hz1 hz2 rfl _ _ _ rfl hown a1 vars.length c1 (vars.map strV) rfl (by simp) hAv hn1 (oneCell_texts _) ?c4 ?c5 hsz ?_)
      case c4 => unfold maxLen; omega
      case c5 => omega
      intro v5 w5 hown5 hg5 _
      have hb5 : Below W2.heap.size W2 w5 := hb.grown hg5 hb.size (fun j hj => by have := (hown.lt j hj).1; omega)
      have t5 := TC.out _ (HB.out.2.trans (hb5.mono HB.out.2.size)) 5 _ rfl
      have hAe := HAs.out.2.below (HB.out.1.trans (hb5.mono HB.out.1.size))
      have hsz5 : w.heap.size + 1 + 1 ≤ w5.heap.size := by have := hb5.size; omega
      clear hown hg5 hb hAv t4
      go_wp2_with (at_builtin; refine wpList_append_texts rfl (.tmp 33) (.tmp 35) 41 rfl (w.heap.size + 1 + 1) 9 i0 (.string ⟨#[]⟩) 16 Tryd.underlying41 hi hz0 hz1 hz2 rfl _ _ _ rfl hown5 a2 exts.length c2 (exts.map strV) rfl (by simp) hAe hn2 (oneCell_texts _) ?c4 ?c5 hsz5 ?_)
      case c4 => unfold maxLen; omega
      case c5 => omega
      intro v6 w6 hown6 hg6 _
      have hb6 : Below W2.heap.size W2 w6 := hb5.grown hg6 hb5.size (fun j hj => by have := (hown5.lt j hj).1; omega)
      have t6 := TC.out _ (HB.out.2.trans (hb6.mono HB.out.2.size)) 6 _ rfl
      have hsz6 : w.heap.size + 1 + 1 ≤ w6.heap.size := by have := hb6.size; omega
      clear hown5 hg6 hb5 hAe t5
      obtain ⟨zs, hzs⟩ : ∃ zs, ys ++ (vars ++ exts) = zs := ⟨_, rfl⟩
      have hzl : ys.length + vars.length + exts.length = zs.length := by rw [← hzs, List.length_append, List.length_append, Nat.add_assoc]
      rw [← List.map_append, ← List.map_append, hzl, hzs] at hown6
      rw [List.append_assoc ys vars exts, hzs] at HJ
      have hzb : zs.length ≤ 8388612 := by omega
      cases hq : (priv == []) with
      | true =>
        obtain ⟨g6, d6, rfl, hd6, _, hA6⟩ := ownsRow_at hown6
        have JD := Lib.hid (refJoined_l zs g6 d6 w6 (by omega) (by rw [← show zs ++ keepL [priv] = zs by rw [keepL_no hq, keepL_nil, List.append_nil]]; rw [← HJ.out]; exact hj) hA6)
        have HE : Hid (joinT ⟨lang, ext, script, region, vars, exts, priv⟩ = joinD zs) := Lib.hid (by rw [HJ.out, keepL_no hq, keepL_nil, List.append_nil])
        have HB6 := Lib.hid (HB.out.1.trans (hb6.mono HB.out.1.size))
        clear hown6 hb6 hd6 hA6 HJ hj
        go_wp2_with (go_at_call 113; refine JD.out.mono ?_; rintro e w9 ⟨rfl, hx9⟩)
        go_ret
        exact ⟨by rw [HE.out] <;> rfl, HB6.out.trans (hx9.mono HB6.out.size)⟩
      | false =>
        have HE : Hid (joinT ⟨lang, ext, script, region, vars, exts, priv⟩ = joinD (zs ++ [priv])) := Lib.hid (by rw [HJ.out, keepL_yes hq, keepL_nil])
        go_wp2_with (at_builtin; refine wpList_append_texts rfl (.tmp 40) (.tmp 43) 41 rfl (w.heap.size + 1 + 1) 9 i0 (.string ⟨#[]⟩) 16 Tryd.underlying41 hi hz0 hz1 hz2 rfl _ _ _ rfl (hown6.alloc _) (some ⟨w6.heap.size, 0, none⟩) 1 1 [.string (B priv)] rfl rfl (at_one _ _ _) (fun h => nomatch h) (fun u hu => by rw [List.mem_singleton.1 hu]; rfl) ?c4 ?c5 (by rw [World.size_alloc]; omega) ?_)
        case c4 => unfold maxLen; omega
        case c5 => omega
        intro v7 w7 hown7 hg7 _
        have hb7 : Below W2.heap.size W2 w7 := (hb6.alloc hb6.size _).grown hg7 (by have := hb6.size; simp; omega) (fun j hj => by have := (hown6.lt j hj).1; omega)
        have hown8 : w7.ownsRow (w.heap.size + 1 + 1) 9 1 v7 (zs ++ [priv]).length ((zs ++ [priv]).map strV) := by
          rw [List.length_append, List.map_append]
          exact hown7
        obtain ⟨g6, d6, rfl, hd6, _, hA6⟩ := ownsRow_at hown8
        have JD := Lib.hid (refJoined_l (zs ++ [priv]) g6 d6 w7 (by simp; omega) (by rw [← HE.out]; exact hj) hA6)
        have HB7 := Lib.hid (HB.out.1.trans (hb7.mono HB.out.1.size))
        rw [List.length_append, List.length_singleton] at JD
        clear hown6 hown7 hown8 hg7 hb6 hb7 hd6 hA6 HJ hj t6
        go_wp2_with (go_at_call 113; refine JD.out.mono ?_; rintro e w9 ⟨rfl, hx9⟩)
        go_ret
        exact ⟨by rw [HE.out] <;> rfl, HB7.out.trans (hx9.mono HB7.out.size)⟩
end Go.Proofs.YtfjcbodkjjmagaaDoor
