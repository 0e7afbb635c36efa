/-
  tesseralaw09.NquadsEach: the whole walk. By an AI agent.
-/
import Derived.Test.YtdegonmkikfghaaGreatDoorZEach
import Derived.Test.YtdegonmkikfghaaGreatDoorZEscBack0
import Derived.Test.YtdegonmkikfghaaGreatDoorZRefSort
import Derived.Test.YtdegonmkikfghaaGreatDoorZRangeM
namespace Go.Proofs.YtdegonmkikfghaaGreatDoor
open Go.RowKit Go.Shelf
set_option maxRecDepth 1000000
attribute [local go_sem] Oper.semAt_some wide_fn

theorem errE_code {l : List UInt8} {p : Nat} {e : Int} (h : errE l = some (p, e)) : e ≠ 0 := by
  have key : ∀ (k i : Nat), l.length - i ≤ k → (eachF l i).2 = some (p, e) → e ≠ 0 := fun k => by
    induction k with
    | zero =>
      intro i hk h
      rw [eachF_end (by omega)] at h
      cases h
    | succ k ih =>
      intro i hk h
      by_cases hj : l.length ≤ i
      · rw [eachF_end hj] at h; cases h
      have hg := eolF_ge l i
      obtain ⟨y, hy⟩ : ∃ y, lineAt (cutF l i (eolF l i)) = y := ⟨_, rfl⟩
      rcases y with (_ | q) | ⟨p', e'⟩
      · rw [eachF_none (by omega) hy] at h
        exact ih _ (by omega) h
      · rw [eachF_some (by omega) hy] at h
        exact ih _ (by omega) h
      · rw [eachF_bad (by omega) hy] at h
        cases h
        exact (lineAt_bad hy).2
  exact key l.length 0 (by omega) h
theorem wantE_few {l : List UInt8} (h : l.length ≤ 1048576) : (wantE l).length ≤ 1048576 := by
  have h1 := eachF_half l l.length 0 (by omega)
  unfold wantE
  rw [List.length_map]; omega
theorem bown_frontE {b : Nat} {a : Option Addr} {c : Nat} {l : List UInt8} {u : World} (h : BOwn b (.slice a (l ++ [250, 251]).length c) (l ++ [250, 251]) u) : At u a (l.map U8) ∧ l.length ≤ c := by
  have h1 := At.take h.at l.length
  have e : ((l ++ [250, 251]).map U8).take l.length = l.map U8 := by rw [List.map_append, List.take_left' (by simp)]
  rw [e] at h1
  have := h.cap.2
  exact ⟨h1, by simp at this; omega⟩
theorem ep_pre {l : List UInt8} {w w1 w2 : World} {st inn x y : Int} {a va : Option Addr} {c vc : Nat}
    (hB1 : Below (((w.alloc (.cells #[.int .i64 st] 3)).alloc (.cells #[.int .i64 inn] 3)).alloc (.cells #[.bool false] 4)).heap.size (((w.alloc (.cells #[.int .i64 st] 3)).alloc (.cells #[.int .i64 inn] 3)).alloc (.cells #[.bool false] 4)) w1)
    (hY : BOwn (((w.alloc (.cells #[.int .i64 st] 3)).alloc (.cells #[.int .i64 inn] 3)).alloc (.cells #[.bool false] 4)).heap.size (.slice a (l ++ [250, 251]).length c) (l ++ [250, 251]) w1)
    (hO : QOwn w1.heap.size (.slice va (wantE l).length vc) (wantE l) w2) (hB2 : Below w1.heap.size w1 w2) (hf : faultE (errE l) = .agg #[.int .i64 x, .int .i64 y]) (hl : l.length ≤ 1048576) (hst : -9223372036854775808 ≤ st ∧ st ≤ 9223372036854775807)
    (hT : ∀ V, Below w.heap.size w V → TabAt V ∧ MaxAt V ∧ UtAt V ∧ ErrType V) :
    EpPre l (((w2.alloc (.cells #[.slice va (wantE l).length vc] 22)).alloc (.cells #[.int .i64 x, .int .i64 y] 42)).alloc (.cells #[.int .i64 (countE l : Int)] 3)) w.heap.size (w.heap.size + 1) (w.heap.size + 1 + 1) w2.heap.size (w2.heap.size + 1) (w2.heap.size + 1 + 1) (.slice va (wantE l).length vc) x y st inn a c ∧
      Below w.heap.size w w1 ∧ Boxed w1 (w.heap.size + 1 + 1) 4 (.bool false) ∧ w.heap.size + 3 ≤ w1.heap.size := by
  have x4 : Boxed (((w.alloc (.cells #[.int .i64 st] 3)).alloc (.cells #[.int .i64 inn] 3)).alloc (.cells #[.bool false] 4)) w.heap.size 3 (.int .i64 st) := ((Boxed.new w 3 (.int .i64 st)).alloc _).alloc _
  have x5 : Boxed (((w.alloc (.cells #[.int .i64 st] 3)).alloc (.cells #[.int .i64 inn] 3)).alloc (.cells #[.bool false] 4)) (w.heap.size + 1) 3 (.int .i64 inn) := by
    have h := (Boxed.new (w.alloc (.cells #[.int .i64 st] 3)) 3 (.int .i64 inn)).alloc (.cells #[.bool false] 4)
    rwa [World.size_alloc] at h
  have x6 : Boxed (((w.alloc (.cells #[.int .i64 st] 3)).alloc (.cells #[.int .i64 inn] 3)).alloc (.cells #[.bool false] 4)) (w.heap.size + 1 + 1) 4 (.bool false) := by
    have h := Boxed.new ((w.alloc (.cells #[.int .i64 st] 3)).alloc (.cells #[.int .i64 inn] 3)) 4 (.bool false)
    rwa [World.size_alloc, World.size_alloc] at h
  have b3 : Below w.heap.size w (((w.alloc (.cells #[.int .i64 st] 3)).alloc (.cells #[.int .i64 inn] 3)).alloc (.cells #[.bool false] 4)) := (((Below.refl _ w).alloc (Nat.le_refl _) _).alloc (by simp) _).alloc (by simp; omega) _
  have z3 : (((w.alloc (.cells #[.int .i64 st] 3)).alloc (.cells #[.int .i64 inn] 3)).alloc (.cells #[.bool false] 4)).heap.size = w.heap.size + 3 := by simp
  generalize ((w.alloc (.cells #[.int .i64 st] 3)).alloc (.cells #[.int .i64 inn] 3)).alloc (.cells #[.bool false] 4) = w3 at hB1 hY x4 x5 x6 b3 z3
  have s1 := hB1.size
  have s2 := hB2.size
  have y8 := ((Boxed.new w2 22 (.slice va (wantE l).length vc)).alloc (.cells #[.int .i64 x, .int .i64 y] 42)).alloc (.cells #[.int .i64 (countE l : Int)] 3)
  have y10 : BoxN (((w2.alloc (.cells #[.slice va (wantE l).length vc] 22)).alloc (.cells #[.int .i64 x, .int .i64 y] 42)).alloc (.cells #[.int .i64 (countE l : Int)] 3)) (w2.heap.size + 1) 42 #[.int .i64 x, .int .i64 y] := by
    have h := (BoxN.new (w2.alloc (.cells #[.slice va (wantE l).length vc] 22)) 42 #[.int .i64 x, .int .i64 y]).alloc (.cells #[.int .i64 (countE l : Int)] 3)
    rwa [World.size_alloc] at h
  have y11 : Boxed (((w2.alloc (.cells #[.slice va (wantE l).length vc] 22)).alloc (.cells #[.int .i64 x, .int .i64 y] 42)).alloc (.cells #[.int .i64 (countE l : Int)] 3)) (w2.heap.size + 1 + 1) 3 (.int .i64 (countE l : Int)) := by
    have h := Boxed.new ((w2.alloc (.cells #[.slice va (wantE l).length vc] 22)).alloc (.cells #[.int .i64 x, .int .i64 y] 42)) 3 (.int .i64 (countE l : Int))
    rwa [World.size_alloc, World.size_alloc] at h
  have b11 : Below w2.heap.size w2 (((w2.alloc (.cells #[.slice va (wantE l).length vc] 22)).alloc (.cells #[.int .i64 x, .int .i64 y] 42)).alloc (.cells #[.int .i64 (countE l : Int)] 3)) := (((Below.refl _ w2).alloc (Nat.le_refl _) _).alloc (by simp) _).alloc (by simp; omega) _
  have z11 : (((w2.alloc (.cells #[.slice va (wantE l).length vc] 22)).alloc (.cells #[.int .i64 x, .int .i64 y] 42)).alloc (.cells #[.int .i64 (countE l : Int)] 3)).heap.size = w2.heap.size + 3 := by simp
  generalize ((w2.alloc (.cells #[.slice va (wantE l).length vc] 22)).alloc (.cells #[.int .i64 x, .int .i64 y] 42)).alloc (.cells #[.int .i64 (countE l : Int)] 3) = W at y8 y10 y11 b11 z11 ⊢
  have c3 : Below w3.heap.size w3 W := hB1.trans ((hB2.trans (b11.mono s2)).mono s1)
  have hfr := bown_frontE hY
  refine ⟨⟨boxed_belowL x4 c3 (by omega), boxed_belowL x5 c3 (by omega), y8, y10, y11, by omega, fun V h => (hO.below (b11.trans (h.mono (by omega)))).view, hf, ⟨hl, wantE_few hl⟩, hst, hfr.2, fun V h => ?_⟩, b3.trans (hB1.mono (by omega)), boxed_belowL x6 hB1 (by omega), by omega⟩
  have hV1 : Below w1.heap.size w1 V := hB2.trans ((b11.trans (h.mono (by omega))).mono s2)
  exact ⟨hfr.1.below hV1, hT V (b3.trans ((hB1.trans (hV1.mono s1)).mono (by omega)))⟩
set_option maxHeartbeats 16000000 in
theorem each_walk_ok (l : List UInt8) (st inn : Int) (w : World) (hf : errE l = none) (hT : TabAt w) (hM : MaxAt w) (hU : UtAt w) (hE : ErrType w) (hl : l.length ≤ 1048576) (hst : -9223372036854775808 ≤ st ∧ st ≤ 9223372036854775807) :
    Calls Tryz.prog 5 #[.string (B l), .int .i64 st, .int .i64 inn] w fun e w' => e = .returned (.bool true) ∧ Below w.heap.size w w' := by
  have HTB : Hid (∀ V, Below w.heap.size w V → TabAt V ∧ MaxAt V ∧ UtAt V ∧ ErrType V) := Lib.hid (fun V h => ⟨hT.below h, hM.below h, hU.below h, hE.below h⟩)
  have HST := Lib.hid hst
  have RE : Hid (∀ u : World, Calls Tryz.prog 22 #[.string (B l)] u fun e w' => (∃ v pv, e = .returned (.tuple #[v, pv, .agg #[.int .i64 0, .int .i64 0]]) ∧ QOwn u.heap.size v (wantE l) w') ∧ Below u.heap.size u w') := Lib.hid (fun u => by
    have h := refEach_l l u hl
    rw [show (eachF l 0).2 = _ from hf] at h
    exact h)
  have ef : ∀ (u : World) (c : Array Value), (binOp .eql 55 (.func (.func 44) #[] c) .nilFunc).run Tryz.prog u = .ok (.bool false) u := fun _ _ => by kernel_rfl
  have hfew := wantE_few hl
  have HF := Lib.hid hf
  obtain ⟨L, hL⟩ : ∃ L, (wantE l).length = L := ⟨_, rfl⟩
  rw [hL] at hfew
  have HL := Lib.hid hL
  clear hT hM hU hE hst hf hL
  refine (callsIn_wide (n := 20)).1 ?_
  refine callsIn_of_wp_marks Tryz.func5 rfl trivial ?_ rfl
  simp only [Tryz.ntmps5, List.size_toArray, List.length_cons, List.length_nil, Nat.reduceAdd, Nat.reduceSub, Array.replicate_succ, Array.replicate_zero, List.push_toArray, List.append_toArray, List.nil_append, List.cons_append]
  gi_wp2_with (first
    | (gi_at_call 21; refine (callsIn_wide.2 (lawBytes_l l _ hl)).mono ?_; rintro e1 w1 ⟨a, c, rfl, hy1, hb1⟩; have HB1 := Lib.hid hb1; have HY1 := Lib.hid hy1; clear hb1 hy1)
    | (gi_at_call 22; refine (callsIn_wide.2 (RE.out _)).mono ?_; rintro e2 w2 ⟨⟨v, pv, rfl, ho⟩, hb2⟩; obtain ⟨va, vc, rfl, _, _⟩ := ho.at; have HO2 := Lib.hid ho; have HB2 := Lib.hid hb2; clear hb2 ho)
    | (gi_at_call 23; refine (nqEach_in _ _ l.length c _).mono ?_; rintro e3 w3 ⟨rfl, rfl⟩))
  refine wpIn_loop_rounds 3 ?_
  rw [roundsIn_succ]
  gi_wp2_with fail
  have hcu : countE l ≤ 1048577 := countE_few (wantE_few hl)
  obtain ⟨P1, hBw, hx6, hw13⟩ := ep_pre HB1.out HY1.out HO2.out HB2.out (by rw [HF.out]; rfl) hl HST.out HTB.out
  have hcn : countE l = (wantE l).length := countE_ok HF.out
  rw [hcn] at P1
  clear hcn
  have PA : Hid (EpAt l (((((((w2.alloc (.cells #[.slice va (wantE l).length vc] 22)).alloc (.cells #[.int .i64 0, .int .i64 0] 42)).alloc (.cells #[.int .i64 ((wantE l).length : Int)] 3)).alloc (.cells #[.slice a l.length c] 25)).alloc (.cells #[.func (.func 44) #[] #[.pointer (some ⟨w2.heap.size + 1 + 1 + 1, 0, none⟩)]] 55)).alloc (.cells #[.int .i64 0] 3)).alloc (.cells #[.int .i64 0] 3)) (w2.heap.size + 1 + 1 + 1 + 1) w.heap.size (w.heap.size + 1) (w.heap.size + 1 + 1) w2.heap.size (w2.heap.size + 1) (w2.heap.size + 1 + 1) (w2.heap.size + 1 + 1 + 1 + 1) (w2.heap.size + 1 + 1 + 1 + 1 + 1) (w2.heap.size + 1 + 1 + 1 + 1 + 1 + 1) (w2.heap.size + 1 + 1 + 1) (.slice va (wantE l).length vc) 0 0 st inn 0) := Lib.hid (by
    have h := ep_first P1
    simp only [World.size_alloc] at h
    exact h)
  clear P1
  have hs2 := HB2.out.size
  have hw2 : w.heap.size + 3 ≤ w2.heap.size := by omega
  have B20 : Below w2.heap.size w2 (((((((w2.alloc (.cells #[.slice va (wantE l).length vc] 22)).alloc (.cells #[.int .i64 0, .int .i64 0] 42)).alloc (.cells #[.int .i64 ((wantE l).length : Int)] 3)).alloc (.cells #[.slice a l.length c] 25)).alloc (.cells #[.func (.func 44) #[] #[.pointer (some ⟨w2.heap.size + 1 + 1 + 1, 0, none⟩)]] 55)).alloc (.cells #[.int .i64 0] 3)).alloc (.cells #[.int .i64 0] 3)) := (((((((Below.refl _ w2).alloc (Nat.le_refl _) _).alloc (by simp) _).alloc (by simp; omega) _).alloc (by simp; omega) _).alloc (by simp; omega) _).alloc (by simp; omega) _).alloc (by simp; omega) _
  have hg : Boxed (((((((w2.alloc (.cells #[.slice va (wantE l).length vc] 22)).alloc (.cells #[.int .i64 0, .int .i64 0] 42)).alloc (.cells #[.int .i64 ((wantE l).length : Int)] 3)).alloc (.cells #[.slice a l.length c] 25)).alloc (.cells #[.func (.func 44) #[] #[.pointer (some ⟨w2.heap.size + 1 + 1 + 1, 0, none⟩)]] 55)).alloc (.cells #[.int .i64 0] 3)).alloc (.cells #[.int .i64 0] 3)) (w2.heap.size + 1 + 1 + 1 + 1 + 1 + 1) 3 (.int .i64 0) := by
    have h := Boxed.new (((((((w2.alloc (.cells #[.slice va (wantE l).length vc] 22)).alloc (.cells #[.int .i64 0, .int .i64 0] 42)).alloc (.cells #[.int .i64 ((wantE l).length : Int)] 3)).alloc (.cells #[.slice a l.length c] 25)).alloc (.cells #[.func (.func 44) #[] #[.pointer (some ⟨w2.heap.size + 1 + 1 + 1, 0, none⟩)]] 55)).alloc (.cells #[.int .i64 0] 3))) 3 (.int .i64 0)
    simpa only [World.size_alloc] using h
  have z0 : (((((((w2.alloc (.cells #[.slice va (wantE l).length vc] 22)).alloc (.cells #[.int .i64 0, .int .i64 0] 42)).alloc (.cells #[.int .i64 ((wantE l).length : Int)] 3)).alloc (.cells #[.slice a l.length c] 25)).alloc (.cells #[.func (.func 44) #[] #[.pointer (some ⟨w2.heap.size + 1 + 1 + 1, 0, none⟩)]] 55)).alloc (.cells #[.int .i64 0] 3)).alloc (.cells #[.int .i64 0] 3)).heap.size = w2.heap.size + 7 := by simp
  
  generalize hW0 : (((((((w2.alloc (.cells #[.slice va (wantE l).length vc] 22)).alloc (.cells #[.int .i64 0, .int .i64 0] 42)).alloc (.cells #[.int .i64 ((wantE l).length : Int)] 3)).alloc (.cells #[.slice a l.length c] 25)).alloc (.cells #[.func (.func 44) #[] #[.pointer (some ⟨w2.heap.size + 1 + 1 + 1, 0, none⟩)]] 55)).alloc (.cells #[.int .i64 0] 3)).alloc (.cells #[.int .i64 0] 3)) = W0 at PA B20 hg z0 ⊢
  clear hW0 z0
  refine ep_pass 20 (by omega) l W0 _ _ _ _ _ _ _ _ _ _ _ _ _ _ st inn 0 PA.out _ _ _ _ _ _ _ _ _ _ _ _ _ _ _ _ _ _ _ _ _ _ _ _ _ _ _ _ _ _ _ _ .nilIface _ _ _ _ _ _ _ _ _ _ _ _ _ _ _ _ _ _ _ _ _ _ _ _ _ _ _ _ _ _ _ _ _ _ _ _ _ _ _ _ _ _ _ _ _ _ _ _ _ _ _ _ _ _ _ _ _ _ _ _ _ _ _ _ _ _ _ _ _ _ _ _ _ _ _ _ _ _ [] hg _ ?_
  intro W v hD hb hB hv hvl
  by_cases hvn : v = countE l
  · subst hvn
    have hnn : ((countE l : Int) != (countE l : Int)) = false := by simp
    have P := PA.out
    obtain ⟨h4, h5, h8, h10, h11, hn12, h12, hn13, h13, h14, h6⟩ := P.lt
    have c14 := hb.cell
    have c11 := (boxed_belowL P.b11 hB (by omega)).cell
    have c13 := (boxed_belowL P.b13 hB (by omega)).cell
    have c4 := (boxed_belowL P.b4 hB (by omega)).cell
    have c12 := (boxed_belowL P.b12 hB (by omega)).cell
    have hzW := hB.size
    have l14 : w2.heap.size + 1 + 1 + 1 + 1 + 1 + 1 < W.heap.size := by omega
    have l12 : w2.heap.size + 1 + 1 + 1 + 1 < W.heap.size := by omega
    have l12' : w2.heap.size + 1 + 1 + 1 + 1 < W.heap.size + 1 := by omega
    have l12n : w2.heap.size + 1 + 1 + 1 + 1 ≠ W.heap.size := by omega
    have l12m : w2.heap.size + 1 + 1 + 1 + 1 ≠ W.heap.size + 1 := by omega
    have PN := Lib.hid (ep_next P hB)
    have HK := Lib.hid hD
    have BW1 : Hid (Below w1.heap.size w1 W) := Lib.hid (HB2.out.trans ((B20.trans (hB.mono (by omega))).mono hs2))
    have HZ : Hid (W0.heap.size ≤ W.heap.size ∧ w1.heap.size ≤ W.heap.size ∧ w.heap.size + 1 + 1 < w1.heap.size ∧ w1.heap.size ≤ w2.heap.size ∧ w2.heap.size < W0.heap.size) := Lib.hid ⟨hzW, by omega, by omega, hs2, by omega⟩
    clear hb hB hD PA P B20 hg hzW h4 h5 h8 h10 h11 hn12 h12 hn13 h13 h14 h6
    gi_wp2_with fail
    rw [roundsIn_succ]
    gi_wp2_with fail
    generalize hW2 : (W.alloc (.cells #[.int .i64 1] 3)).alloc (.cells #[.int .i64 0] 3) = W2 at PN ⊢
    have hB2 : Hid (Below W.heap.size W W2) := Lib.hid (by
      rw [← hW2]
      exact ((Below.refl _ W).alloc (Nat.le_refl _) _).alloc (by simp) _)
    have hz2 : Hid (W2.heap.size = W.heap.size + 2) := Lib.hid (by rw [← hW2]; simp)
    have hg2 : Boxed W2 (W.heap.size + 1) 3 (.int .i64 0) := by
      rw [← hW2]
      have := Boxed.new (W.alloc (.cells #[.int .i64 1] 3)) 3 (.int .i64 0)
      simpa only [World.size_alloc] using this
    clear hW2 c14 c11 c13 c4 c12
    refine ep_pass 20 (by omega) l W2 _ _ _ _ _ _ _ _ _ _ _ _ _ _ st inn 1 PN.out _ _ _ _ _ _ _ _ _ _ _ _ _ _ _ _ _ _ _ _ _ _ _ _ _ _ _ _ _ _ _ _ .nilIface _ _ _ _ _ _ _ _ _ _ _ _ _ _ _ _ _ _ _ _ _ _ _ _ _ _ _ _ _ _ _ _ _ _ _ _ _ _ _ _ _ _ _ _ _ _ _ _ _ _ _ _ _ _ _ _ _ _ _ _ _ _ _ _ _ _ _ _ _ _ _ _ _ _ _ _ _ _ [{ target := .collected W0.heap.size, args := #[] }] hg2 _ ?_
    intro W3 v2 hD2 hb2 hB3 hv2 hvl2
    have hv2' : v2 = countE l := by
      rcases hv2 with h | ⟨h, _⟩
      · exact h
      · cases h
    subst hv2'
    have P := PN.out
    obtain ⟨h4, h5, h8, h10, h11, hn12, h12, hn13, h13, h14, h6⟩ := P.lt
    have c14 := hb2.cell
    have c11 := (boxed_belowL P.b11 hB3 (by omega)).cell
    have c13 := (boxed_belowL P.b13 hB3 (by omega)).cell
    have hz3 := hB3.size
    have HZo := HZ.out
    have hz2o := hz2.out
    have b6W : Boxed W (w.heap.size + 1 + 1) 4 (.bool false) := boxed_belowL hx6 BW1.out (by omega)
    have b6W2 : Boxed W2 (w.heap.size + 1 + 1) 4 (.bool false) := boxed_belowL b6W hB2.out (by omega)
    have b6 := Lib.hid (boxed_belowL b6W2 hB3 (by omega))
    have c6 := b6.out.cell
    have f6 := b6.out.frozen
    have lW9 : W.heap.size < W3.heap.size := by omega
    have lW9b : W.heap.size + 1 < W3.heap.size := by omega
    have l6 : w.heap.size + 1 + 1 < W3.heap.size := by omega
    have hDlt : W0.heap.size < W.heap.size := (Array.getElem?_eq_some_iff.1 HK.out).1
    have HK3 : Hid (W3.heap[W0.heap.size]? = some (.deferred (some []))) := Lib.hid ((hB3.block _ (by omega)).trans ((hB2.out.block _ hDlt).trans HK.out))
    have HK2 := Lib.hid hD2
    have BW3 : Hid (Below w1.heap.size w1 W3) := Lib.hid (BW1.out.trans ((hB2.out.trans (hB3.mono (by omega))).mono (by omega)))
    have hDD : W0.heap.size < W2.heap.size := by omega
    have ne6 : w.heap.size + 1 + 1 ≠ W3.heap.size := by omega
    have hnn2 : True := trivial
    have HW1 := Lib.hid hw13
    clear hb2 hB3 hD2 P PN hv2 hvl2 h4 h5 h8 h10 h11 hn12 h12 hn13 h13 h14 h6 hg2 HZo hz2o b6W b6W2 hw13 hx6
    gi_wp2_with fail
    rw [roundsIn_succ]
    gi_wp2_with (gi_at_call 24; refine (callsIn_wide.2 (lawKept_l l _ a c _ ((HY1.out.below BW3.out).below ((Below.refl _ _).alloc (Nat.le_refl _) _)) hl)).mono ?_; rintro e9 w9 ⟨rfl, rfl⟩)
    have hzF := W3.size_alloc (.cells #[.int .i64 2] 3)
    have bF : Boxed ((W3.setCell ⟨w.heap.size + 1 + 1, 0, none⟩ (.bool true)).alloc (.cells #[.int .i64 2] 3)) (w.heap.size + 1 + 1) 4 (.bool true) := (b6.out.set (.bool true)).alloc _
    have hs3 : (W3.setCell ⟨w.heap.size + 1 + 1, 0, none⟩ (.bool true)).heap.size = W3.heap.size := by simp
    have hD3 : W2.heap.size < W3.heap.size := (Array.getElem?_eq_some_iff.1 HK2.out).1
    have hKF2 : ((W3.setCell ⟨w.heap.size + 1 + 1, 0, none⟩ (.bool true)).alloc (.cells #[.int .i64 2] 3)).heap[W2.heap.size]? = some (.deferred (some [])) := (Below.heap_alloc _ _ _ (by omega)).trans ((KeepsOthers.setCell _ _ _).same W2.heap.size _ HK2.out rfl)
    have hKF1 : ((W3.setCell ⟨w.heap.size + 1 + 1, 0, none⟩ (.bool true)).alloc (.cells #[.int .i64 2] 3)).heap[W0.heap.size]? = some (.deferred (some [])) := (Below.heap_alloc _ _ _ (by omega)).trans ((KeepsOthers.setCell _ _ _).same W0.heap.size _ HK3.out rfl)
    have hwl := HW1.out
    have hB3w : Below w.heap.size w W3 := hBw.trans (BW3.out.mono (by omega))
    have hBF : Below w.heap.size w ((W3.setCell ⟨w.heap.size + 1 + 1, 0, none⟩ (.bool true)).alloc (.cells #[.int .i64 2] 3)) := (hB3w.setCell (p := ⟨w.heap.size + 1 + 1, 0, none⟩) (by show w.heap.size ≤ w.heap.size + 1 + 1; omega) _).alloc (by omega) _
    have hZo := HZ.out
    generalize (W3.setCell ⟨w.heap.size + 1 + 1, 0, none⟩ (.bool true)).alloc (.cells #[.int .i64 2] 3) = WF at bF hKF2 hKF1 hBF ⊢
    have hK1' : (WF.putObj W2.heap.size (.deferred none)).heap[W0.heap.size]? = some (.deferred (some [])) := (World.putObj_heap_other (by omega)).trans hKF1
    have b1 : Boxed (WF.putObj W2.heap.size (.deferred none)) (w.heap.size + 1 + 1) 4 (.bool true) := bF.kept (grownBy_putObj' _ W2.heap.size _) (fun e => by have := Option.some.inj e; omega)
    have b2 : Boxed ((WF.putObj W2.heap.size (.deferred none)).putObj W0.heap.size (.deferred none)) (w.heap.size + 1 + 1) 4 (.bool true) := b1.kept (grownBy_putObj' _ W0.heap.size _) (fun e => by have := Option.some.inj e; omega)
    have hB1' := hBF.trans (belowK_b (w := w) (Nat.le_refl _) WF W2.heap.size _ (.deferred none) (by omega) hKF2 rfl rfl)
    have hB2' := hB1'.trans (belowK_b (w := w) (Nat.le_refl _) (WF.putObj W2.heap.size (.deferred none)) W0.heap.size _ (.deferred none) (by omega) hK1' rfl rfl)
    have hc := b2.cell
    refine ⟨by simp, .inl ⟨W2.heap.size, _, rfl, run_takeDeferred hKF2, ?_⟩⟩
    refine ⟨by simp, .inl ⟨W0.heap.size, _, rfl, run_takeDeferred hK1', ?_⟩⟩
    exact ⟨.bool true, by simp [results, Tryz.results5, go_sem, hc], rfl, hB2'⟩
  · have hs : ((v : Int) == wrap64 (st + 1)) = true := by
      rcases hv with h | ⟨_, h⟩
      · exact absurd h hvn
      · exact h
    have t105 : ((v : Int) != (countE l : Int)) = true := by
      rw [bne_iff_ne]
      omega
    have t113 : ((v : Int) != wrap64 (st + 1)) = false := by rw [bne, hs]; rfl
    clear hs hvn
    have P := PA.out
    obtain ⟨h4, h5, h8, h10, h11, hn12, h12, hn13, h13, h14, h6⟩ := P.lt
    have c14 := hb.cell
    have c11 := (boxed_belowL P.b11 hB (by omega)).cell
    have c13 := (boxed_belowL P.b13 hB (by omega)).cell
    have c4 := (boxed_belowL P.b4 hB (by omega)).cell
    have c12 := (boxed_belowL P.b12 hB (by omega)).cell
    have hzW := hB.size
    have l14 : w2.heap.size + 1 + 1 + 1 + 1 + 1 + 1 < W.heap.size := by omega
    have l12 : w2.heap.size + 1 + 1 + 1 + 1 < W.heap.size := by omega
    have l12' : w2.heap.size + 1 + 1 + 1 + 1 < W.heap.size + 1 := by omega
    have l12n : w2.heap.size + 1 + 1 + 1 + 1 ≠ W.heap.size := by omega
    have l12m : w2.heap.size + 1 + 1 + 1 + 1 ≠ W.heap.size + 1 := by omega
    have PN := Lib.hid (ep_next P hB)
    have HK := Lib.hid hD
    have BW1 : Hid (Below w1.heap.size w1 W) := Lib.hid (HB2.out.trans ((B20.trans (hB.mono (by omega))).mono hs2))
    have HZ : Hid (W0.heap.size ≤ W.heap.size ∧ w1.heap.size ≤ W.heap.size ∧ w.heap.size + 1 + 1 < w1.heap.size ∧ w1.heap.size ≤ w2.heap.size ∧ w2.heap.size < W0.heap.size) := Lib.hid ⟨hzW, by omega, by omega, hs2, by omega⟩
    clear hb hB hD PA P B20 hg hzW h4 h5 h8 h10 h11 hn12 h12 hn13 h13 h14 h6
    gi_wp2_with fail
    rw [roundsIn_succ]
    gi_wp2_with fail
    generalize hW2 : (W.alloc (.cells #[.int .i64 1] 3)).alloc (.cells #[.int .i64 0] 3) = W2 at PN ⊢
    have hB2 : Hid (Below W.heap.size W W2) := Lib.hid (by
      rw [← hW2]
      exact ((Below.refl _ W).alloc (Nat.le_refl _) _).alloc (by simp) _)
    have hz2 : Hid (W2.heap.size = W.heap.size + 2) := Lib.hid (by rw [← hW2]; simp)
    have hg2 : Boxed W2 (W.heap.size + 1) 3 (.int .i64 0) := by
      rw [← hW2]
      have := Boxed.new (W.alloc (.cells #[.int .i64 1] 3)) 3 (.int .i64 0)
      simpa only [World.size_alloc] using this
    clear hW2 c14 c11 c13 c4 c12
    refine ep_pass 20 (by omega) l W2 _ _ _ _ _ _ _ _ _ _ _ _ _ _ st inn 1 PN.out _ _ _ _ _ _ _ _ _ _ _ _ _ _ _ _ _ _ _ _ _ _ _ _ _ _ _ _ _ _ _ _ .nilIface _ _ _ _ _ _ _ _ _ _ _ _ _ _ _ _ _ _ _ _ _ _ _ _ _ _ _ _ _ _ _ _ _ _ _ _ _ _ _ _ _ _ _ _ _ _ _ _ _ _ _ _ _ _ _ _ _ _ _ _ _ _ _ _ _ _ _ _ _ _ _ _ _ _ _ _ _ _ [{ target := .collected W0.heap.size, args := #[] }] hg2 _ ?_
    intro W3 v2 hD2 hb2 hB3 hv2 hvl2
    have hv2' : v2 = countE l := by
      rcases hv2 with h | ⟨h, _⟩
      · exact h
      · cases h
    subst hv2'
    have P := PN.out
    obtain ⟨h4, h5, h8, h10, h11, hn12, h12, hn13, h13, h14, h6⟩ := P.lt
    have c14 := hb2.cell
    have c11 := (boxed_belowL P.b11 hB3 (by omega)).cell
    have c13 := (boxed_belowL P.b13 hB3 (by omega)).cell
    have hz3 := hB3.size
    have HZo := HZ.out
    have hz2o := hz2.out
    have b6W : Boxed W (w.heap.size + 1 + 1) 4 (.bool false) := boxed_belowL hx6 BW1.out (by omega)
    have b6W2 : Boxed W2 (w.heap.size + 1 + 1) 4 (.bool false) := boxed_belowL b6W hB2.out (by omega)
    have b6 := Lib.hid (boxed_belowL b6W2 hB3 (by omega))
    have c6 := b6.out.cell
    have f6 := b6.out.frozen
    have lW9 : W.heap.size < W3.heap.size := by omega
    have lW9b : W.heap.size + 1 < W3.heap.size := by omega
    have l6 : w.heap.size + 1 + 1 < W3.heap.size := by omega
    have hDlt : W0.heap.size < W.heap.size := (Array.getElem?_eq_some_iff.1 HK.out).1
    have HK3 : Hid (W3.heap[W0.heap.size]? = some (.deferred (some []))) := Lib.hid ((hB3.block _ (by omega)).trans ((hB2.out.block _ hDlt).trans HK.out))
    have HK2 := Lib.hid hD2
    have BW3 : Hid (Below w1.heap.size w1 W3) := Lib.hid (BW1.out.trans ((hB2.out.trans (hB3.mono (by omega))).mono (by omega)))
    have hDD : W0.heap.size < W2.heap.size := by omega
    have ne6 : w.heap.size + 1 + 1 ≠ W3.heap.size := by omega
    have hnn : ((countE l : Int) != (countE l : Int)) = false := by simp
    have HW1 := Lib.hid hw13
    clear hb2 hB3 hD2 P PN hv2 hvl2 h4 h5 h8 h10 h11 hn12 h12 hn13 h13 h14 h6 hg2 HZo hz2o b6W b6W2 hw13 hx6
    gi_wp2_with fail
    rw [roundsIn_succ]
    gi_wp2_with (gi_at_call 24; refine (callsIn_wide.2 (lawKept_l l _ a c _ ((HY1.out.below BW3.out).below ((Below.refl _ _).alloc (Nat.le_refl _) _)) hl)).mono ?_; rintro e9 w9 ⟨rfl, rfl⟩)
    have hzF := W3.size_alloc (.cells #[.int .i64 2] 3)
    have bF : Boxed ((W3.setCell ⟨w.heap.size + 1 + 1, 0, none⟩ (.bool true)).alloc (.cells #[.int .i64 2] 3)) (w.heap.size + 1 + 1) 4 (.bool true) := (b6.out.set (.bool true)).alloc _
    have hs3 : (W3.setCell ⟨w.heap.size + 1 + 1, 0, none⟩ (.bool true)).heap.size = W3.heap.size := by simp
    have hD3 : W2.heap.size < W3.heap.size := (Array.getElem?_eq_some_iff.1 HK2.out).1
    have hKF2 : ((W3.setCell ⟨w.heap.size + 1 + 1, 0, none⟩ (.bool true)).alloc (.cells #[.int .i64 2] 3)).heap[W2.heap.size]? = some (.deferred (some [])) := (Below.heap_alloc _ _ _ (by omega)).trans ((KeepsOthers.setCell _ _ _).same W2.heap.size _ HK2.out rfl)
    have hKF1 : ((W3.setCell ⟨w.heap.size + 1 + 1, 0, none⟩ (.bool true)).alloc (.cells #[.int .i64 2] 3)).heap[W0.heap.size]? = some (.deferred (some [])) := (Below.heap_alloc _ _ _ (by omega)).trans ((KeepsOthers.setCell _ _ _).same W0.heap.size _ HK3.out rfl)
    have hwl := HW1.out
    have hB3w : Below w.heap.size w W3 := hBw.trans (BW3.out.mono (by omega))
    have hBF : Below w.heap.size w ((W3.setCell ⟨w.heap.size + 1 + 1, 0, none⟩ (.bool true)).alloc (.cells #[.int .i64 2] 3)) := (hB3w.setCell (p := ⟨w.heap.size + 1 + 1, 0, none⟩) (by show w.heap.size ≤ w.heap.size + 1 + 1; omega) _).alloc (by omega) _
    have hZo := HZ.out
    generalize (W3.setCell ⟨w.heap.size + 1 + 1, 0, none⟩ (.bool true)).alloc (.cells #[.int .i64 2] 3) = WF at bF hKF2 hKF1 hBF ⊢
    have hK1' : (WF.putObj W2.heap.size (.deferred none)).heap[W0.heap.size]? = some (.deferred (some [])) := (World.putObj_heap_other (by omega)).trans hKF1
    have b1 : Boxed (WF.putObj W2.heap.size (.deferred none)) (w.heap.size + 1 + 1) 4 (.bool true) := bF.kept (grownBy_putObj' _ W2.heap.size _) (fun e => by have := Option.some.inj e; omega)
    have b2 : Boxed ((WF.putObj W2.heap.size (.deferred none)).putObj W0.heap.size (.deferred none)) (w.heap.size + 1 + 1) 4 (.bool true) := b1.kept (grownBy_putObj' _ W0.heap.size _) (fun e => by have := Option.some.inj e; omega)
    have hB1' := hBF.trans (belowK_b (w := w) (Nat.le_refl _) WF W2.heap.size _ (.deferred none) (by omega) hKF2 rfl rfl)
    have hB2' := hB1'.trans (belowK_b (w := w) (Nat.le_refl _) (WF.putObj W2.heap.size (.deferred none)) W0.heap.size _ (.deferred none) (by omega) hK1' rfl rfl)
    have hc := b2.cell
    refine ⟨by simp, .inl ⟨W2.heap.size, _, rfl, run_takeDeferred hKF2, ?_⟩⟩
    refine ⟨by simp, .inl ⟨W0.heap.size, _, rfl, run_takeDeferred hK1', ?_⟩⟩
    exact ⟨.bool true, by simp [results, Tryz.results5, go_sem, hc], rfl, hB2'⟩
set_option maxHeartbeats 16000000 in
theorem each_walk_bad (l : List UInt8) (st inn : Int) (w : World) (p : Nat) (ec : Int) (hf : errE l = some (p, ec)) (hT : TabAt w) (hM : MaxAt w) (hU : UtAt w) (hE : ErrType w) (hl : l.length ≤ 1048576) (hst : -9223372036854775808 ≤ st ∧ st ≤ 9223372036854775807) :
    Calls Tryz.prog 5 #[.string (B l), .int .i64 st, .int .i64 inn] w fun e w' => e = .returned (.bool true) ∧ Below w.heap.size w w' := by
  have HTB : Hid (∀ V, Below w.heap.size w V → TabAt V ∧ MaxAt V ∧ UtAt V ∧ ErrType V) := Lib.hid (fun V h => ⟨hT.below h, hM.below h, hU.below h, hE.below h⟩)
  have HST := Lib.hid hst
  have RE : Hid (∀ u : World, Calls Tryz.prog 22 #[.string (B l)] u fun e w' => (∃ v pv, e = .returned (.tuple #[v, pv, .agg #[.int .i64 (p : Int), .int .i64 ec]]) ∧ QOwn u.heap.size v (wantE l) w') ∧ Below u.heap.size u w') := Lib.hid (fun u => by
    have h := refEach_l l u hl
    rw [show (eachF l 0).2 = _ from hf] at h
    exact h)
  have ef : ∀ (u : World) (c : Array Value), (binOp .eql 55 (.func (.func 44) #[] c) .nilFunc).run Tryz.prog u = .ok (.bool false) u := fun _ _ => by kernel_rfl
  have hfew := wantE_few hl
  have HF := Lib.hid hf
  have hec : (ec != 0) = true := bne_iff_ne.2 (errE_code hf)
  have hN : wrap64 (((wantE l).length : Int) + 1) = (countE l : Int) := by rw [countE_bad hf]; unfold wrap64; omega
  obtain ⟨L, hL⟩ : ∃ L, (wantE l).length = L := ⟨_, rfl⟩
  rw [hL] at hfew
  have HL := Lib.hid hL
  clear hT hM hU hE hst hf hL
  refine (callsIn_wide (n := 20)).1 ?_
  refine callsIn_of_wp_marks Tryz.func5 rfl trivial ?_ rfl
  simp only [Tryz.ntmps5, List.size_toArray, List.length_cons, List.length_nil, Nat.reduceAdd, Nat.reduceSub, Array.replicate_succ, Array.replicate_zero, List.push_toArray, List.append_toArray, List.nil_append, List.cons_append]
  gi_wp2_with (first
    | (gi_at_call 21; refine (callsIn_wide.2 (lawBytes_l l _ hl)).mono ?_; rintro e1 w1 ⟨a, c, rfl, hy1, hb1⟩; have HB1 := Lib.hid hb1; have HY1 := Lib.hid hy1; clear hb1 hy1)
    | (gi_at_call 22; refine (callsIn_wide.2 (RE.out _)).mono ?_; rintro e2 w2 ⟨⟨v, pv, rfl, ho⟩, hb2⟩; obtain ⟨va, vc, rfl, _, _⟩ := ho.at; have HO2 := Lib.hid ho; have HB2 := Lib.hid hb2; clear hb2 ho)
    | (gi_at_call 23; refine (nqEach_in _ _ l.length c _).mono ?_; rintro e3 w3 ⟨rfl, rfl⟩))
  refine wpIn_loop_rounds 3 ?_
  rw [roundsIn_succ]
  gi_wp2_with fail
  have hcu : countE l ≤ 1048577 := countE_few (wantE_few hl)
  obtain ⟨P1, hBw, hx6, hw13⟩ := ep_pre HB1.out HY1.out HO2.out HB2.out (by rw [HF.out]; rfl) hl HST.out HTB.out
  have PA : Hid (EpAt l (((((((w2.alloc (.cells #[.slice va (wantE l).length vc] 22)).alloc (.cells #[.int .i64 (p : Int), .int .i64 ec] 42)).alloc (.cells #[.int .i64 (countE l : Int)] 3)).alloc (.cells #[.slice a l.length c] 25)).alloc (.cells #[.func (.func 44) #[] #[.pointer (some ⟨w2.heap.size + 1 + 1 + 1, 0, none⟩)]] 55)).alloc (.cells #[.int .i64 0] 3)).alloc (.cells #[.int .i64 0] 3)) (w2.heap.size + 1 + 1 + 1 + 1) w.heap.size (w.heap.size + 1) (w.heap.size + 1 + 1) w2.heap.size (w2.heap.size + 1) (w2.heap.size + 1 + 1) (w2.heap.size + 1 + 1 + 1 + 1) (w2.heap.size + 1 + 1 + 1 + 1 + 1) (w2.heap.size + 1 + 1 + 1 + 1 + 1 + 1) (w2.heap.size + 1 + 1 + 1) (.slice va (wantE l).length vc) (p : Int) ec st inn 0) := Lib.hid (by
    have h := ep_first P1
    simp only [World.size_alloc] at h
    exact h)
  clear P1
  have hs2 := HB2.out.size
  have hw2 : w.heap.size + 3 ≤ w2.heap.size := by omega
  have B20 : Below w2.heap.size w2 (((((((w2.alloc (.cells #[.slice va (wantE l).length vc] 22)).alloc (.cells #[.int .i64 (p : Int), .int .i64 ec] 42)).alloc (.cells #[.int .i64 (countE l : Int)] 3)).alloc (.cells #[.slice a l.length c] 25)).alloc (.cells #[.func (.func 44) #[] #[.pointer (some ⟨w2.heap.size + 1 + 1 + 1, 0, none⟩)]] 55)).alloc (.cells #[.int .i64 0] 3)).alloc (.cells #[.int .i64 0] 3)) := (((((((Below.refl _ w2).alloc (Nat.le_refl _) _).alloc (by simp) _).alloc (by simp; omega) _).alloc (by simp; omega) _).alloc (by simp; omega) _).alloc (by simp; omega) _).alloc (by simp; omega) _
  have hg : Boxed (((((((w2.alloc (.cells #[.slice va (wantE l).length vc] 22)).alloc (.cells #[.int .i64 (p : Int), .int .i64 ec] 42)).alloc (.cells #[.int .i64 (countE l : Int)] 3)).alloc (.cells #[.slice a l.length c] 25)).alloc (.cells #[.func (.func 44) #[] #[.pointer (some ⟨w2.heap.size + 1 + 1 + 1, 0, none⟩)]] 55)).alloc (.cells #[.int .i64 0] 3)).alloc (.cells #[.int .i64 0] 3)) (w2.heap.size + 1 + 1 + 1 + 1 + 1 + 1) 3 (.int .i64 0) := by
    have h := Boxed.new (((((((w2.alloc (.cells #[.slice va (wantE l).length vc] 22)).alloc (.cells #[.int .i64 (p : Int), .int .i64 ec] 42)).alloc (.cells #[.int .i64 (countE l : Int)] 3)).alloc (.cells #[.slice a l.length c] 25)).alloc (.cells #[.func (.func 44) #[] #[.pointer (some ⟨w2.heap.size + 1 + 1 + 1, 0, none⟩)]] 55)).alloc (.cells #[.int .i64 0] 3))) 3 (.int .i64 0)
    simpa only [World.size_alloc] using h
  have z0 : (((((((w2.alloc (.cells #[.slice va (wantE l).length vc] 22)).alloc (.cells #[.int .i64 (p : Int), .int .i64 ec] 42)).alloc (.cells #[.int .i64 (countE l : Int)] 3)).alloc (.cells #[.slice a l.length c] 25)).alloc (.cells #[.func (.func 44) #[] #[.pointer (some ⟨w2.heap.size + 1 + 1 + 1, 0, none⟩)]] 55)).alloc (.cells #[.int .i64 0] 3)).alloc (.cells #[.int .i64 0] 3)).heap.size = w2.heap.size + 7 := by simp
  
  generalize hW0 : (((((((w2.alloc (.cells #[.slice va (wantE l).length vc] 22)).alloc (.cells #[.int .i64 (p : Int), .int .i64 ec] 42)).alloc (.cells #[.int .i64 (countE l : Int)] 3)).alloc (.cells #[.slice a l.length c] 25)).alloc (.cells #[.func (.func 44) #[] #[.pointer (some ⟨w2.heap.size + 1 + 1 + 1, 0, none⟩)]] 55)).alloc (.cells #[.int .i64 0] 3)).alloc (.cells #[.int .i64 0] 3)) = W0 at PA B20 hg z0 ⊢
  clear hW0 z0
  refine ep_pass 20 (by omega) l W0 _ _ _ _ _ _ _ _ _ _ _ _ _ _ st inn 0 PA.out _ _ _ _ _ _ _ _ _ _ _ _ _ _ _ _ _ _ _ _ _ _ _ _ _ _ _ _ _ _ _ _ .nilIface _ _ _ _ _ _ _ _ _ _ _ _ _ _ _ _ _ _ _ _ _ _ _ _ _ _ _ _ _ _ _ _ _ _ _ _ _ _ _ _ _ _ _ _ _ _ _ _ _ _ _ _ _ _ _ _ _ _ _ _ _ _ _ _ _ _ _ _ _ _ _ _ _ _ _ _ _ _ [] hg _ ?_
  intro W v hD hb hB hv hvl
  by_cases hvn : v = countE l
  · subst hvn
    have hnn : ((countE l : Int) != (countE l : Int)) = false := by simp
    have P := PA.out
    obtain ⟨h4, h5, h8, h10, h11, hn12, h12, hn13, h13, h14, h6⟩ := P.lt
    have c14 := hb.cell
    have c11 := (boxed_belowL P.b11 hB (by omega)).cell
    have c13 := (boxed_belowL P.b13 hB (by omega)).cell
    have c4 := (boxed_belowL P.b4 hB (by omega)).cell
    have c12 := (boxed_belowL P.b12 hB (by omega)).cell
    have hzW := hB.size
    have l14 : w2.heap.size + 1 + 1 + 1 + 1 + 1 + 1 < W.heap.size := by omega
    have l12 : w2.heap.size + 1 + 1 + 1 + 1 < W.heap.size := by omega
    have l12' : w2.heap.size + 1 + 1 + 1 + 1 < W.heap.size + 1 := by omega
    have l12n : w2.heap.size + 1 + 1 + 1 + 1 ≠ W.heap.size := by omega
    have l12m : w2.heap.size + 1 + 1 + 1 + 1 ≠ W.heap.size + 1 := by omega
    have PN := Lib.hid (ep_next P hB)
    have HK := Lib.hid hD
    have BW1 : Hid (Below w1.heap.size w1 W) := Lib.hid (HB2.out.trans ((B20.trans (hB.mono (by omega))).mono hs2))
    have HZ : Hid (W0.heap.size ≤ W.heap.size ∧ w1.heap.size ≤ W.heap.size ∧ w.heap.size + 1 + 1 < w1.heap.size ∧ w1.heap.size ≤ w2.heap.size ∧ w2.heap.size < W0.heap.size) := Lib.hid ⟨hzW, by omega, by omega, hs2, by omega⟩
    clear hb hB hD PA P B20 hg hzW h4 h5 h8 h10 h11 hn12 h12 hn13 h13 h14 h6
    gi_wp2_with fail
    rw [roundsIn_succ]
    gi_wp2_with fail
    generalize hW2 : (W.alloc (.cells #[.int .i64 1] 3)).alloc (.cells #[.int .i64 0] 3) = W2 at PN ⊢
    have hB2 : Hid (Below W.heap.size W W2) := Lib.hid (by
      rw [← hW2]
      exact ((Below.refl _ W).alloc (Nat.le_refl _) _).alloc (by simp) _)
    have hz2 : Hid (W2.heap.size = W.heap.size + 2) := Lib.hid (by rw [← hW2]; simp)
    have hg2 : Boxed W2 (W.heap.size + 1) 3 (.int .i64 0) := by
      rw [← hW2]
      have := Boxed.new (W.alloc (.cells #[.int .i64 1] 3)) 3 (.int .i64 0)
      simpa only [World.size_alloc] using this
    clear hW2 c14 c11 c13 c4 c12
    refine ep_pass 20 (by omega) l W2 _ _ _ _ _ _ _ _ _ _ _ _ _ _ st inn 1 PN.out _ _ _ _ _ _ _ _ _ _ _ _ _ _ _ _ _ _ _ _ _ _ _ _ _ _ _ _ _ _ _ _ .nilIface _ _ _ _ _ _ _ _ _ _ _ _ _ _ _ _ _ _ _ _ _ _ _ _ _ _ _ _ _ _ _ _ _ _ _ _ _ _ _ _ _ _ _ _ _ _ _ _ _ _ _ _ _ _ _ _ _ _ _ _ _ _ _ _ _ _ _ _ _ _ _ _ _ _ _ _ _ _ [{ target := .collected W0.heap.size, args := #[] }] hg2 _ ?_
    intro W3 v2 hD2 hb2 hB3 hv2 hvl2
    have hv2' : v2 = countE l := by
      rcases hv2 with h | ⟨h, _⟩
      · exact h
      · cases h
    subst hv2'
    have P := PN.out
    obtain ⟨h4, h5, h8, h10, h11, hn12, h12, hn13, h13, h14, h6⟩ := P.lt
    have c14 := hb2.cell
    have c11 := (boxed_belowL P.b11 hB3 (by omega)).cell
    have c13 := (boxed_belowL P.b13 hB3 (by omega)).cell
    have hz3 := hB3.size
    have HZo := HZ.out
    have hz2o := hz2.out
    have b6W : Boxed W (w.heap.size + 1 + 1) 4 (.bool false) := boxed_belowL hx6 BW1.out (by omega)
    have b6W2 : Boxed W2 (w.heap.size + 1 + 1) 4 (.bool false) := boxed_belowL b6W hB2.out (by omega)
    have b6 := Lib.hid (boxed_belowL b6W2 hB3 (by omega))
    have c6 := b6.out.cell
    have f6 := b6.out.frozen
    have lW9 : W.heap.size < W3.heap.size := by omega
    have lW9b : W.heap.size + 1 < W3.heap.size := by omega
    have l6 : w.heap.size + 1 + 1 < W3.heap.size := by omega
    have hDlt : W0.heap.size < W.heap.size := (Array.getElem?_eq_some_iff.1 HK.out).1
    have HK3 : Hid (W3.heap[W0.heap.size]? = some (.deferred (some []))) := Lib.hid ((hB3.block _ (by omega)).trans ((hB2.out.block _ hDlt).trans HK.out))
    have HK2 := Lib.hid hD2
    have BW3 : Hid (Below w1.heap.size w1 W3) := Lib.hid (BW1.out.trans ((hB2.out.trans (hB3.mono (by omega))).mono (by omega)))
    have hDD : W0.heap.size < W2.heap.size := by omega
    have ne6 : w.heap.size + 1 + 1 ≠ W3.heap.size := by omega
    have hnn2 : True := trivial
    have HW1 := Lib.hid hw13
    clear hb2 hB3 hD2 P PN hv2 hvl2 h4 h5 h8 h10 h11 hn12 h12 hn13 h13 h14 h6 hg2 HZo hz2o b6W b6W2 hw13 hx6
    gi_wp2_with fail
    rw [roundsIn_succ]
    gi_wp2_with (gi_at_call 24; refine (callsIn_wide.2 (lawKept_l l _ a c _ ((HY1.out.below BW3.out).below ((Below.refl _ _).alloc (Nat.le_refl _) _)) hl)).mono ?_; rintro e9 w9 ⟨rfl, rfl⟩)
    have hzF := W3.size_alloc (.cells #[.int .i64 2] 3)
    have bF : Boxed ((W3.setCell ⟨w.heap.size + 1 + 1, 0, none⟩ (.bool true)).alloc (.cells #[.int .i64 2] 3)) (w.heap.size + 1 + 1) 4 (.bool true) := (b6.out.set (.bool true)).alloc _
    have hs3 : (W3.setCell ⟨w.heap.size + 1 + 1, 0, none⟩ (.bool true)).heap.size = W3.heap.size := by simp
    have hD3 : W2.heap.size < W3.heap.size := (Array.getElem?_eq_some_iff.1 HK2.out).1
    have hKF2 : ((W3.setCell ⟨w.heap.size + 1 + 1, 0, none⟩ (.bool true)).alloc (.cells #[.int .i64 2] 3)).heap[W2.heap.size]? = some (.deferred (some [])) := (Below.heap_alloc _ _ _ (by omega)).trans ((KeepsOthers.setCell _ _ _).same W2.heap.size _ HK2.out rfl)
    have hKF1 : ((W3.setCell ⟨w.heap.size + 1 + 1, 0, none⟩ (.bool true)).alloc (.cells #[.int .i64 2] 3)).heap[W0.heap.size]? = some (.deferred (some [])) := (Below.heap_alloc _ _ _ (by omega)).trans ((KeepsOthers.setCell _ _ _).same W0.heap.size _ HK3.out rfl)
    have hwl := HW1.out
    have hB3w : Below w.heap.size w W3 := hBw.trans (BW3.out.mono (by omega))
    have hBF : Below w.heap.size w ((W3.setCell ⟨w.heap.size + 1 + 1, 0, none⟩ (.bool true)).alloc (.cells #[.int .i64 2] 3)) := (hB3w.setCell (p := ⟨w.heap.size + 1 + 1, 0, none⟩) (by show w.heap.size ≤ w.heap.size + 1 + 1; omega) _).alloc (by omega) _
    have hZo := HZ.out
    generalize (W3.setCell ⟨w.heap.size + 1 + 1, 0, none⟩ (.bool true)).alloc (.cells #[.int .i64 2] 3) = WF at bF hKF2 hKF1 hBF ⊢
    have hK1' : (WF.putObj W2.heap.size (.deferred none)).heap[W0.heap.size]? = some (.deferred (some [])) := (World.putObj_heap_other (by omega)).trans hKF1
    have b1 : Boxed (WF.putObj W2.heap.size (.deferred none)) (w.heap.size + 1 + 1) 4 (.bool true) := bF.kept (grownBy_putObj' _ W2.heap.size _) (fun e => by have := Option.some.inj e; omega)
    have b2 : Boxed ((WF.putObj W2.heap.size (.deferred none)).putObj W0.heap.size (.deferred none)) (w.heap.size + 1 + 1) 4 (.bool true) := b1.kept (grownBy_putObj' _ W0.heap.size _) (fun e => by have := Option.some.inj e; omega)
    have hB1' := hBF.trans (belowK_b (w := w) (Nat.le_refl _) WF W2.heap.size _ (.deferred none) (by omega) hKF2 rfl rfl)
    have hB2' := hB1'.trans (belowK_b (w := w) (Nat.le_refl _) (WF.putObj W2.heap.size (.deferred none)) W0.heap.size _ (.deferred none) (by omega) hK1' rfl rfl)
    have hc := b2.cell
    refine ⟨by simp, .inl ⟨W2.heap.size, _, rfl, run_takeDeferred hKF2, ?_⟩⟩
    refine ⟨by simp, .inl ⟨W0.heap.size, _, rfl, run_takeDeferred hK1', ?_⟩⟩
    exact ⟨.bool true, by simp [results, Tryz.results5, go_sem, hc], rfl, hB2'⟩
  · have hs : ((v : Int) == wrap64 (st + 1)) = true := by
      rcases hv with h | ⟨_, h⟩
      · exact absurd h hvn
      · exact h
    have t105 : ((v : Int) != (countE l : Int)) = true := by
      rw [bne_iff_ne]
      omega
    have t113 : ((v : Int) != wrap64 (st + 1)) = false := by rw [bne, hs]; rfl
    clear hs hvn
    have P := PA.out
    obtain ⟨h4, h5, h8, h10, h11, hn12, h12, hn13, h13, h14, h6⟩ := P.lt
    have c14 := hb.cell
    have c11 := (boxed_belowL P.b11 hB (by omega)).cell
    have c13 := (boxed_belowL P.b13 hB (by omega)).cell
    have c4 := (boxed_belowL P.b4 hB (by omega)).cell
    have c12 := (boxed_belowL P.b12 hB (by omega)).cell
    have hzW := hB.size
    have l14 : w2.heap.size + 1 + 1 + 1 + 1 + 1 + 1 < W.heap.size := by omega
    have l12 : w2.heap.size + 1 + 1 + 1 + 1 < W.heap.size := by omega
    have l12' : w2.heap.size + 1 + 1 + 1 + 1 < W.heap.size + 1 := by omega
    have l12n : w2.heap.size + 1 + 1 + 1 + 1 ≠ W.heap.size := by omega
    have l12m : w2.heap.size + 1 + 1 + 1 + 1 ≠ W.heap.size + 1 := by omega
    have PN := Lib.hid (ep_next P hB)
    have HK := Lib.hid hD
    have BW1 : Hid (Below w1.heap.size w1 W) := Lib.hid (HB2.out.trans ((B20.trans (hB.mono (by omega))).mono hs2))
    have HZ : Hid (W0.heap.size ≤ W.heap.size ∧ w1.heap.size ≤ W.heap.size ∧ w.heap.size + 1 + 1 < w1.heap.size ∧ w1.heap.size ≤ w2.heap.size ∧ w2.heap.size < W0.heap.size) := Lib.hid ⟨hzW, by omega, by omega, hs2, by omega⟩
    clear hb hB hD PA P B20 hg hzW h4 h5 h8 h10 h11 hn12 h12 hn13 h13 h14 h6
    gi_wp2_with fail
    rw [roundsIn_succ]
    gi_wp2_with fail
    generalize hW2 : (W.alloc (.cells #[.int .i64 1] 3)).alloc (.cells #[.int .i64 0] 3) = W2 at PN ⊢
    have hB2 : Hid (Below W.heap.size W W2) := Lib.hid (by
      rw [← hW2]
      exact ((Below.refl _ W).alloc (Nat.le_refl _) _).alloc (by simp) _)
    have hz2 : Hid (W2.heap.size = W.heap.size + 2) := Lib.hid (by rw [← hW2]; simp)
    have hg2 : Boxed W2 (W.heap.size + 1) 3 (.int .i64 0) := by
      rw [← hW2]
      have := Boxed.new (W.alloc (.cells #[.int .i64 1] 3)) 3 (.int .i64 0)
      simpa only [World.size_alloc] using this
    clear hW2 c14 c11 c13 c4 c12
    refine ep_pass 20 (by omega) l W2 _ _ _ _ _ _ _ _ _ _ _ _ _ _ st inn 1 PN.out _ _ _ _ _ _ _ _ _ _ _ _ _ _ _ _ _ _ _ _ _ _ _ _ _ _ _ _ _ _ _ _ .nilIface _ _ _ _ _ _ _ _ _ _ _ _ _ _ _ _ _ _ _ _ _ _ _ _ _ _ _ _ _ _ _ _ _ _ _ _ _ _ _ _ _ _ _ _ _ _ _ _ _ _ _ _ _ _ _ _ _ _ _ _ _ _ _ _ _ _ _ _ _ _ _ _ _ _ _ _ _ _ [{ target := .collected W0.heap.size, args := #[] }] hg2 _ ?_
    intro W3 v2 hD2 hb2 hB3 hv2 hvl2
    have hv2' : v2 = countE l := by
      rcases hv2 with h | ⟨h, _⟩
      · exact h
      · cases h
    subst hv2'
    have P := PN.out
    obtain ⟨h4, h5, h8, h10, h11, hn12, h12, hn13, h13, h14, h6⟩ := P.lt
    have c14 := hb2.cell
    have c11 := (boxed_belowL P.b11 hB3 (by omega)).cell
    have c13 := (boxed_belowL P.b13 hB3 (by omega)).cell
    have hz3 := hB3.size
    have HZo := HZ.out
    have hz2o := hz2.out
    have b6W : Boxed W (w.heap.size + 1 + 1) 4 (.bool false) := boxed_belowL hx6 BW1.out (by omega)
    have b6W2 : Boxed W2 (w.heap.size + 1 + 1) 4 (.bool false) := boxed_belowL b6W hB2.out (by omega)
    have b6 := Lib.hid (boxed_belowL b6W2 hB3 (by omega))
    have c6 := b6.out.cell
    have f6 := b6.out.frozen
    have lW9 : W.heap.size < W3.heap.size := by omega
    have lW9b : W.heap.size + 1 < W3.heap.size := by omega
    have l6 : w.heap.size + 1 + 1 < W3.heap.size := by omega
    have hDlt : W0.heap.size < W.heap.size := (Array.getElem?_eq_some_iff.1 HK.out).1
    have HK3 : Hid (W3.heap[W0.heap.size]? = some (.deferred (some []))) := Lib.hid ((hB3.block _ (by omega)).trans ((hB2.out.block _ hDlt).trans HK.out))
    have HK2 := Lib.hid hD2
    have BW3 : Hid (Below w1.heap.size w1 W3) := Lib.hid (BW1.out.trans ((hB2.out.trans (hB3.mono (by omega))).mono (by omega)))
    have hDD : W0.heap.size < W2.heap.size := by omega
    have ne6 : w.heap.size + 1 + 1 ≠ W3.heap.size := by omega
    have hnn : ((countE l : Int) != (countE l : Int)) = false := by simp
    have HW1 := Lib.hid hw13
    clear hb2 hB3 hD2 P PN hv2 hvl2 h4 h5 h8 h10 h11 hn12 h12 hn13 h13 h14 h6 hg2 HZo hz2o b6W b6W2 hw13 hx6
    gi_wp2_with fail
    rw [roundsIn_succ]
    gi_wp2_with (gi_at_call 24; refine (callsIn_wide.2 (lawKept_l l _ a c _ ((HY1.out.below BW3.out).below ((Below.refl _ _).alloc (Nat.le_refl _) _)) hl)).mono ?_; rintro e9 w9 ⟨rfl, rfl⟩)
    have hzF := W3.size_alloc (.cells #[.int .i64 2] 3)
    have bF : Boxed ((W3.setCell ⟨w.heap.size + 1 + 1, 0, none⟩ (.bool true)).alloc (.cells #[.int .i64 2] 3)) (w.heap.size + 1 + 1) 4 (.bool true) := (b6.out.set (.bool true)).alloc _
    have hs3 : (W3.setCell ⟨w.heap.size + 1 + 1, 0, none⟩ (.bool true)).heap.size = W3.heap.size := by simp
    have hD3 : W2.heap.size < W3.heap.size := (Array.getElem?_eq_some_iff.1 HK2.out).1
    have hKF2 : ((W3.setCell ⟨w.heap.size + 1 + 1, 0, none⟩ (.bool true)).alloc (.cells #[.int .i64 2] 3)).heap[W2.heap.size]? = some (.deferred (some [])) := (Below.heap_alloc _ _ _ (by omega)).trans ((KeepsOthers.setCell _ _ _).same W2.heap.size _ HK2.out rfl)
    have hKF1 : ((W3.setCell ⟨w.heap.size + 1 + 1, 0, none⟩ (.bool true)).alloc (.cells #[.int .i64 2] 3)).heap[W0.heap.size]? = some (.deferred (some [])) := (Below.heap_alloc _ _ _ (by omega)).trans ((KeepsOthers.setCell _ _ _).same W0.heap.size _ HK3.out rfl)
    have hwl := HW1.out
    have hB3w : Below w.heap.size w W3 := hBw.trans (BW3.out.mono (by omega))
    have hBF : Below w.heap.size w ((W3.setCell ⟨w.heap.size + 1 + 1, 0, none⟩ (.bool true)).alloc (.cells #[.int .i64 2] 3)) := (hB3w.setCell (p := ⟨w.heap.size + 1 + 1, 0, none⟩) (by show w.heap.size ≤ w.heap.size + 1 + 1; omega) _).alloc (by omega) _
    have hZo := HZ.out
    generalize (W3.setCell ⟨w.heap.size + 1 + 1, 0, none⟩ (.bool true)).alloc (.cells #[.int .i64 2] 3) = WF at bF hKF2 hKF1 hBF ⊢
    have hK1' : (WF.putObj W2.heap.size (.deferred none)).heap[W0.heap.size]? = some (.deferred (some [])) := (World.putObj_heap_other (by omega)).trans hKF1
    have b1 : Boxed (WF.putObj W2.heap.size (.deferred none)) (w.heap.size + 1 + 1) 4 (.bool true) := bF.kept (grownBy_putObj' _ W2.heap.size _) (fun e => by have := Option.some.inj e; omega)
    have b2 : Boxed ((WF.putObj W2.heap.size (.deferred none)).putObj W0.heap.size (.deferred none)) (w.heap.size + 1 + 1) 4 (.bool true) := b1.kept (grownBy_putObj' _ W0.heap.size _) (fun e => by have := Option.some.inj e; omega)
    have hB1' := hBF.trans (belowK_b (w := w) (Nat.le_refl _) WF W2.heap.size _ (.deferred none) (by omega) hKF2 rfl rfl)
    have hB2' := hB1'.trans (belowK_b (w := w) (Nat.le_refl _) (WF.putObj W2.heap.size (.deferred none)) W0.heap.size _ (.deferred none) (by omega) hK1' rfl rfl)
    have hc := b2.cell
    refine ⟨by simp, .inl ⟨W2.heap.size, _, rfl, run_takeDeferred hKF2, ?_⟩⟩
    refine ⟨by simp, .inl ⟨W0.heap.size, _, rfl, run_takeDeferred hK1', ?_⟩⟩
    exact ⟨.bool true, by simp [results, Tryz.results5, go_sem, hc], rfl, hB2'⟩
theorem each_walk (l : List UInt8) (st inn : Int) (w : World) (hT : TabAt w) (hM : MaxAt w) (hU : UtAt w) (hE : ErrType w) (hl : l.length ≤ 1048576) (hst : -9223372036854775808 ≤ st ∧ st ≤ 9223372036854775807) :
    Calls Tryz.prog 5 #[.string (B l), .int .i64 st, .int .i64 inn] w fun e w' => e = .returned (.bool true) ∧ Below w.heap.size w w' := by
  rcases hf : errE l with _ | ⟨p, ec⟩
  · exact each_walk_ok l st inn w hf hT hM hU hE hl hst
  · exact each_walk_bad l st inn w p ec hf hT hM hU hE hl hst
end Go.Proofs.YtdegonmkikfghaaGreatDoor
