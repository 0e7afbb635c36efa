/-
  tesseralaw23.Same, quad, valid: contracts. By an AI agent.
-/
import Derived.Test.YthipcepgbegaiaaDoorZSameQ
import Derived.Test.YthipcepgbegaiaaDoorZPatchW1
import Derived.Test.YthipcepgbegaiaaDoorZLoadQ
import Derived.Test.YthipcepgbegaiaaDoorZPatch0
namespace Go.Proofs.YthipcepgbegaiaaDoor
open Go.RowKit
set_option maxRecDepth 100000

set_option maxHeartbeats 1000000 in
theorem same_t (p : PatchL) (mv pv mv2 pv2 : Value) (w : World) (h : PView w mv pv p) (h2 : PView w mv2 pv2 p) (n0 : p.minus.length ≤ 4194304) (n1 : p.plus.length ≤ 4194304) :
    Calls Tryd.prog 11 #[.agg #[mv, pv], .agg #[mv2, pv2]] w fun e w' => e = .returned (.bool true) ∧ Below w.heap.size w w' := by
  have S1 := Lib.hid (fun (u : World) (hb : Below w.heap.size w u) => sameQuads_t p.minus mv mv2 u (h.1.below hb) (h2.1.below hb) n0)
  have S2 := Lib.hid (fun (u : World) (hb : Below w.heap.size w u) => sameQuads_t p.plus pv pv2 u (h.2.below hb) (h2.2.below hb) n1)
  have HB0 : Hid (∀ o1 o2, Below w.heap.size w ((w.alloc o1).alloc o2)) := Lib.hid (fun o1 o2 => ((Below.refl _ _).alloc (Nat.le_refl _) _).alloc (by simp) _)
  obtain ⟨pm, cm, rfl⟩ := h.1.form
  obtain ⟨pp, cp, rfl⟩ := h.2.form
  obtain ⟨qm, dm, rfl⟩ := h2.1.form
  obtain ⟨qp, dp, rfl⟩ := h2.2.form
  have SB : Hid (∀ w', Below ((w.alloc (.cells #[.slice pm p.minus.length cm, .slice pp p.plus.length cp] 26)).alloc (.cells #[.slice qm p.minus.length dm, .slice qp p.plus.length dp] 26)).heap.size ((w.alloc (.cells #[.slice pm p.minus.length cm, .slice pp p.plus.length cp] 26)).alloc (.cells #[.slice qm p.minus.length dm, .slice qp p.plus.length dp] 26)) w' →
      w'.cell? ⟨w.heap.size, 0, none⟩ = some (.slice pm p.minus.length cm) ∧ w'.cell? ⟨w.heap.size, 1, none⟩ = some (.slice pp p.plus.length cp) ∧ w'.cell? ⟨w.heap.size + 1, 0, none⟩ = some (.slice qm p.minus.length dm) ∧ w'.cell? ⟨w.heap.size + 1, 1, none⟩ = some (.slice qp p.plus.length dp)) := Lib.hid (fun w' hb => by
    obtain ⟨e1, e2⟩ := held2 rfl hb
    exact ⟨e1 0 _ rfl, e1 1 _ rfl, e2 0 _ rfl, e2 1 _ rfl⟩)
  clear h h2 n0 n1
  go_enter Tryd.func11, Tryd.ntmps11
  go_wp2_with (first | (go_at_call 10; (with_reducible refine (S1.out _ (HB0.out _ _)).mono ?_); rintro e w3 ⟨rfl, hb3⟩; obtain ⟨c0, c1, c2, c3⟩ := SB.out _ hb3; have HB := Lib.hid ((HB0.out _ _).trans (hb3.mono (HB0.out _ _).size)); clear hb3 S1) | (go_at_call 10; (with_reducible refine (S2.out _ HB.out).mono ?_); rintro e w4 ⟨rfl, hb4⟩; have HB4 := Lib.hid (HB.out.trans (hb4.mono HB.out.size)); clear hb4 S2))
  go_ret
  exact ⟨rfl, HB4.out⟩
set_option maxHeartbeats 1000000 in
theorem quad_l (s : List UInt8) (w : World) : Calls Tryd.prog 14 #[.string (B s)] w fun e w' => e = .returned (qv (exQ s)) ∧ Below w.heap.size w w' := by
  have HB0 : Hid (∀ o1 o2, Below w.heap.size w ((w.alloc o1).alloc o2)) := Lib.hid (fun o1 o2 => ((Below.refl _ _).alloc (Nat.le_refl _) _).alloc (by simp) _)
  go_enter Tryd.func14, Tryd.ntmps14
  go_wp2_with fail
  refine bodyPost_ret (v := qv (exQ s)) (by simp [results, Tryd.results14, go_sem]; exact ⟨rfl, rfl, rfl, rfl, rfl, rfl, rfl, rfl, rfl, rfl, rfl, rfl, rfl, rfl, rfl, rfl⟩) rfl ?_
  exact ⟨rfl, HB0.out _ _⟩
set_option maxHeartbeats 1000000 in
theorem lawValid_l (ls : List (List QuadL)) (vs : List Value) (g : Nat) (w : World) (hT : TabAt w) (hM : MaxAt w) (hl : vs.length = ls.length) (hc : ∀ i (h : i < vs.length), w.cell? ⟨g, i, none⟩ = some vs[i])
    (hV : ∀ i (h : i < vs.length), QView w vs[i] (ls[i]'(by omega))) (hN : ∀ l ∈ ls, Neat l) (h0 : ls.length ≤ 100) :
    Calls Tryd.prog 6 #[.slice (some ⟨g, 0, none⟩) vs.length vs.length] w fun e w' => e = .returned (.bool (validAll ls == 0)) ∧ Below w.heap.size w w' := by
  have VL := Lib.hid (fun (i : Nat) (h : i < vs.length) (h2 : i < ls.length) (u : World) (hb : Below w.heap.size w u) => validQ_l (ls[i]'h2) vs[i] u (hT.below hb) (hM.below hb) ((hV i h).below hb) (hN _ (List.getElem_mem _)))
  have HC := Lib.hid hc
  have HL := Lib.hid hl
  have hn : vs.length ≤ 100 := by omega
  clear hc hV hN hT hM hl h0
  obtain ⟨N, eN⟩ : ∃ N, vs.length = N := ⟨_, rfl⟩
  rw [eN] at hn ⊢
  have EN := Lib.hid eN
  clear eN
  go_enter Tryd.func6, Tryd.ntmps6
  go_wp2_with fail
  go_loopw [3] (fun i wr => ∃ k : Nat, i = .int .i64 k ∧ k ≤ N ∧ Hid (Below w.heap.size w wr) ∧ Hid (validAll ls = validAll (ls.drop k))) (fun i _ => N - (intOf i).toNat)
  case atStart => exact ⟨0, rfl, Nat.zero_le _, Lib.hid (Below.refl _ _), Lib.hid rfl⟩
  case round =>
    obtain ⟨k, rfl, hk, HB, HK⟩ := hrel
    by_cases hlt : k < N
    · have hk1 : k < vs.length := by rw [EN.out]; exact hlt
      have hk2 : k < ls.length := by rw [← HL.out]; exact hk1
      have V1 := VL.out k hk1 hk2
      have c0 : wr.cell? ⟨g, k, none⟩ = some vs[k] := by
        have := HC.out k hk1
        rw [HB.out.cell (p := ⟨g, k, none⟩) (World.block_lt_of_cell? _ _ this)]
        exact this
      have HK2 : Hid (validAll ls = firstN (validF ls[k]).2 (validAll (ls.drop (k + 1)))) := Lib.hid (by rw [HK.out, List.drop_eq_getElem_cons hk2]; rfl)
      obtain ⟨v, hv⟩ : ∃ v, vs[k] = v := ⟨_, rfl⟩
      obtain ⟨y, hy⟩ : ∃ y, validF ls[k] = y := ⟨_, rfl⟩
      obtain ⟨y1, n⟩ := y
      rw [hv] at c0 V1
      rw [hy] at V1 HK2
      have VL := Lib.hid V1
      clear V1 hv hy hk1 hk2 HK HC
      by_cases n0 : n = 0
      · have q9 : (n != 0) = false := by rw [n0]; rfl
        have HN : Hid (validAll ls = validAll (ls.drop (k + 1))) := Lib.hid (by rw [HK2.out, n0]; rfl)
        clear n0 HK2
        go_wp2_with (go_at_call 15; (with_reducible refine (VL.out _ HB.out).mono ?_); rintro e w3 ⟨rfl, hb3⟩; have HB3 := Lib.hid (HB.out.trans (hb3.mono HB.out.size)); clear hb3)
        go_roundw
        case rel => exact ⟨k + 1, by go_num, hlt, HB3, HN⟩
        case measure => simp [intOf]; omega
      · have q9 : (n != 0) = true := by rw [bne, kne n0]; rfl
        have HE : Hid ((validAll ls == 0) = false) := Lib.hid (by rw [HK2.out]; unfold firstN; rw [if_pos n0]; exact kne n0)
        clear n0 HK2
        go_wp2_with (go_at_call 15; (with_reducible refine (VL.out _ HB.out).mono ?_); rintro e w3 ⟨rfl, hb3⟩; have HB3 := Lib.hid (HB.out.trans (hb3.mono HB.out.size)); clear hb3)
        go_ret
        exact ⟨ret_bool HE.out.symm, HB3.out⟩
    · obtain rfl : k = N := by omega
      have HE : Hid ((validAll ls == 0) = true) := Lib.hid (by rw [HK.out, List.drop_of_length_le (by rw [← HL.out, EN.out]; exact Nat.le_refl _)]; rfl)
      clear HK VL HC
      go_wp2_with fail
      go_ret
      exact ⟨ret_bool HE.out.symm, HB.out⟩
end Go.Proofs.YthipcepgbegaiaaDoor
