/-
  patch.Each and the function that it hands out: the contract of an iterator. By an AI agent.
-/
import Derived.RangeFuncNested
import Derived.RangeFuncBound
import Derived.RangeFuncCalls
import Derived.RangeFuncLeaves
import Derived.Shelf.Abstract
import Derived.Shelf.RegionOpen
import Derived.OwnWalkIn
import Derived.TacticsInMore
import Derived.LoopNIn
import Derived.LoopIn
import Derived.Test.YthipcepgbegaiaaQOwn
import Derived.Test.YthipcepgbegaiaaPatch0
namespace Go.Proofs.Ythipcepgbegaiaa
open Go.RowKit Go.Shelf
set_option maxRecDepth 100000
attribute [local go_sem] Oper.semAt_some

/-- a quad as one value -/
abbrev qvE (q : QuadL) : Value := .agg #[.int .i64 q.s.kind, .string (B q.s.text), .string (B q.s.type), .string (B q.s.lang), .int .i64 q.p.kind, .string (B q.p.text), .string (B q.p.type), .string (B q.p.lang), .int .i64 q.o.kind, .string (B q.o.text), .string (B q.o.type), .string (B q.o.lang), .int .i64 q.g.kind, .string (B q.g.text), .string (B q.g.type), .string (B q.g.lang)]
abbrev encW (x : Bool × QuadL) : Array Value := #[.bool x.1, qvE x.2]
/-- what comes, in order -/
def walkL (p : PatchL) : List (Bool × QuadL) := p.minus.map (fun q => (false, q)) ++ p.plus.map (fun q => (true, q))
theorem walkL_len (p : PatchL) : (walkL p).length = p.minus.length + p.plus.length := by simp [walkL]
theorem walk_step0 (p : PatchL) (k : Nat) (hk : k < p.minus.length) : (walkL p).take (0 + (k + 1)) = (walkL p).take (0 + k) ++ [(false, p.minus[k])] := by
  have hlen := walkL_len p
  rw [Nat.zero_add, Nat.zero_add, List.take_succ_eq_append_getElem (by omega)]
  congr 2
  simp [walkL, List.getElem_append_left, hk]
theorem walk_step1 (p : PatchL) (k : Nat) (hk : k < p.plus.length) : (walkL p).take (p.minus.length + (k + 1)) = (walkL p).take (p.minus.length + k) ++ [(true, p.plus[k])] := by
  have hlen := walkL_len p
  rw [← Nat.add_assoc, List.take_succ_eq_append_getElem (by omega)]
  congr 2
  simp [walkL, List.getElem_append_right]
/-- where the side i begins -/
def offE (p : PatchL) (i : Nat) : Nat := if i = 0 then 0 else if i = 1 then p.minus.length else p.minus.length + p.plus.length
set_option maxHeartbeats 1000000 in
theorem each_in (F : Fence) (n : Nat) (h5 : F.fn 4) (hro : F.round = none) (mv pv : Value) (w : World) :
    CallsIn F n Try.prog 4 #[.agg #[mv, pv]] w fun e w' => e = .returned (.func (.func 5) #[] #[.pointer (some ⟨w.heap.size, 0, none⟩)]) ∧ w' = w.alloc (.cells #[mv, pv] 24) := by
  refine callsIn_of_wp Try.func4 rfl h5 ?_ hro
  simp only [Try.ntmps4, List.size_toArray, List.length_cons, List.length_nil, Nat.reduceAdd, Nat.reduceSub, Array.replicate_succ, Array.replicate_zero, List.push_toArray, List.append_toArray, List.nil_append, List.cons_append]
  gi_wp2
  go_ret
  exact ⟨rfl, rfl⟩
set_option maxHeartbeats 4000000 in
theorem each1_in (F : Fence) (n : Nat) (h6 : F.fn 5) (hro : F.round = none) (hn : 1 ≤ n) (l Bn n₀ : Nat) (p : PatchL) (mv pv : Value) (J Jx : List (Bool × QuadL) → World → Prop) (W : World) (hJ : AbidesFrom W.heap.size J) (hn₀ : n₀ ≤ W.heap.size)
    (hY : ∀ pre x W1, J pre W1 → pre.length < (walkL p).length → YieldAt F (n - 1) Try.prog l (encW x) W1 fun e W' =>
      (e = .returned (.bool true) ∧ J (pre ++ [x]) W' ∧ Below n₀ W1 W') ∨ (e = .returned (.bool false) ∧ Jx (pre ++ [x]) W'))
    (hc0 : W.cell? ⟨Bn, 0, none⟩ = some mv) (hc1 : W.cell? ⟨Bn, 1, none⟩ = some pv) (hv : ∀ W', Below n₀ W W' → QView W' mv p.minus ∧ QView W' pv p.plus) (hl : p.minus.length ≤ 4611686018427387904 ∧ p.plus.length ≤ 4611686018427387904) (h0 : J [] W) :
    CallsIn F n Try.prog 5 #[.func (.yield l) #[] #[], .pointer (some ⟨Bn, 0, none⟩)] W fun e W' => (∃ v, e = .returned v) ∧
      ((∃ ys, ys = walkL p ∧ J ys W') ∨ (∃ pre, pre <+: walkL p ∧ Jx pre W')) := by
  obtain ⟨a0, c0, rfl, hm0, _⟩ := (hv W (Below.refl _ _)).1
  obtain ⟨a1, c1, rfl, hm1, _⟩ := (hv W (Below.refl _ _)).2
  have HV := Lib.hid hv
  have HL := Lib.hid hl
  clear hv hl
  have i0 : ∀ w, (Instr.index 34 (.agg #[.slice a0 p.minus.length c0, .slice a1 p.plus.length c1]) (.int .i64 0)).run Try.prog w = .ok (.slice a0 p.minus.length c0) w := fun _ => by kernel_rfl
  have i1 : ∀ w, (Instr.index 34 (.agg #[.slice a0 p.minus.length c0, .slice a1 p.plus.length c1]) (.int .i64 1)).run Try.prog w = .ok (.slice a1 p.plus.length c1) w := fun _ => by kernel_rfl
  refine callsIn_of_wp Try.func5 rfl h6 ?_ hro
  simp only [Try.ntmps5, List.size_toArray, List.length_cons, List.length_nil, Nat.reduceAdd, Nat.reduceSub, Array.replicate_succ, Array.replicate_zero, List.push_toArray, List.append_toArray, List.nil_append, List.cons_append]
  gi_wp2
  gi_loopw [12] (fun i wr => ∃ k : Nat, k ≤ 2 ∧ i = .int .i64 k ∧ J ((walkL p).take (offE p k)) wr ∧ Below n₀ W wr) (fun i _ => 2 - (intOf i).toNat)
  case atStart => exact ⟨0, by omega, rfl, by simpa [offE] using h0, Below.refl _ _⟩
  case round =>
    obtain ⟨i, hi, rfl, hJs, hnx⟩ := hrel
    by_cases h2 : i < 2
    · have key : ∃ (aa : Option Addr) (cc : Nat) (S : List QuadL) (bb : Bool), (∀ w, (Instr.index 34 (.agg #[.slice a0 p.minus.length c0, .slice a1 p.plus.length c1]) (.int .i64 (i : Int))).run Try.prog w = .ok (.slice aa S.length cc) w) ∧
          (∀ k (hk : k < S.length), (walkL p).take (offE p i + (k + 1)) = (walkL p).take (offE p i + k) ++ [(bb, S[k])]) ∧ (∀ W', Below n₀ W W' → QView W' (.slice aa S.length cc) S) ∧ offE p i + S.length = offE p (i + 1) ∧ ((i : Int) == 1) = bb ∧ S.length ≤ 4611686018427387904 ∧ offE p (i + 1) ≤ (walkL p).length := by
        have h01 : i = 0 ∨ i = 1 := by omega
        rcases h01 with rfl | rfl
        · exact ⟨a0, c0, p.minus, false, i0, fun k hk => walk_step0 p k hk, fun W' h => (HV.out W' h).1, by simp [offE], rfl, HL.out.1, by simp [offE, walkL_len]⟩
        · exact ⟨a1, c1, p.plus, true, i1, fun k hk => walk_step1 p k hk, fun W' h => (HV.out W' h).2, by simp [offE], rfl, HL.out.2, by simp [offE, walkL_len]⟩
      obtain ⟨aa, cc, S, bb, ix, hst, hvw, hoff, hbb, hSl, hall⟩ := key
      have HS := Lib.hid hst
      have HW := Lib.hid hvw
      have HO := Lib.hid hoff
      have HA := Lib.hid hall
      clear hst hvw hoff i0 i1 hall
      have q13 : decide ((i : Int) < 2) = true := decide_eq_true (by omega)
      obtain ⟨wo, rfl⟩ : ∃ wo : World, wo = wr := ⟨_, rfl⟩
      gi_wp2
      gi_loopw [18] (fun v wr => ∃ k : Nat, k ≤ S.length ∧ v = .int .i64 k ∧ J ((walkL p).take (offE p i + k)) wr ∧ Below n₀ W wr) (fun v _ => S.length - (intOf v).toNat)
      case atStart => exact ⟨0, by omega, rfl, hJs, hnx⟩
      case round =>
        obtain ⟨k, hk, rfl, hJk, hnk⟩ := hrel
        by_cases hlt : k < S.length
        · obtain ⟨_, _, hee, _, hq⟩ := HW.out wr hnk
          cases hee
          obtain ⟨b, o, rfl⟩ := hq.place (by omega)
          have r1 := hq.get hlt
          have HX := HS.out k hlt
          obtain ⟨x, hx⟩ : ∃ x, S[k] = x := ⟨_, rfl⟩
          rw [hx] at r1 HX
          obtain ⟨d0, d1, d2, d3, d4, d5, d6, d7, d8, d9, d10, d11, d12, d13, d14, d15⟩ := cells16 r1
          have hn₀0 : n₀ ≤ wr.heap.size := Nat.le_trans hn₀ hnk.size
          obtain ⟨fn, tmps, assign, body, hy, hR⟩ := hY _ (bb, x) (wr.alloc (.cells #[.int .i64 x.s.kind, .string (B x.s.text), .string (B x.s.type), .string (B x.s.lang), .int .i64 x.p.kind, .string (B x.p.text), .string (B x.p.type), .string (B x.p.lang), .int .i64 x.o.kind, .string (B x.o.text), .string (B x.o.type), .string (B x.o.lang), .int .i64 x.g.kind, .string (B x.g.text), .string (B x.g.type), .string (B x.g.lang)] 31)) (hJ _ _ _ none hJk (World.grownBy_alloc _ _ none) (by simp)) (by
            have h1 := HA.out
            have h2 := HO.out
            rw [List.length_take]
            omega)
          dsimp only [encW, qvE] at hy
          have HX2 := Lib.hid HX
          have HB := Lib.hid hnk
          clear r1 hx HX hnk hq
          gi_wp2
          refine hR.mono ?_
          rintro e W3 (⟨rfl, hJ3, hk3⟩ | ⟨rfl, hJx3⟩)
          · have HB3 := Lib.hid ((HB.out.alloc hn₀0 (.cells #[.int .i64 x.s.kind, .string (B x.s.text), .string (B x.s.type), .string (B x.s.lang), .int .i64 x.p.kind, .string (B x.p.text), .string (B x.p.type), .string (B x.p.lang), .int .i64 x.o.kind, .string (B x.o.text), .string (B x.o.type), .string (B x.o.lang), .int .i64 x.g.kind, .string (B x.g.text), .string (B x.g.type), .string (B x.g.lang)] 31)).trans hk3)
            clear hk3
            gi_wp2
            go_roundw
            case rel => exact ⟨k + 1, hlt, by go_num, by rw [HX2.out]; exact hJ3, HB3.out⟩
            case measure => simp [intOf]; omega
          · gi_wp2
            refine bodyPost_ret (results_none rfl _ _ _) rfl ?_
            exact ⟨⟨_, rfl⟩, .inr ⟨_, by rw [← HX2.out]; exact List.take_prefix _ _, hJx3⟩⟩
        · obtain rfl : k = S.length := by omega
          have HB := Lib.hid hnk
          clear hnk
          gi_wp2
          go_roundw
          case rel => exact ⟨i + 1, by omega, by go_num, by rw [← HO.out]; exact hJk, HB.out⟩
          case measure => simp [intOf]; omega
    · obtain rfl : i = 2 := by omega
      gi_wp2
      go_end0
      exact ⟨⟨_, rfl⟩, .inl ⟨_, rfl, by
        have := hJs
        rwa [List.take_of_length_le (by rw [walkL_len]; simp [offE])] at this⟩⟩
theorem each_stops (F : Fence) (n : Nat) (h6 : F.fn 5) (hro : F.round = none) (hn : 1 ≤ n) (Bn n₀ : Nat) (p : PatchL) (mv pv : Value) (w : World) (hB : Bn < w.heap.size) (hn₀ : n₀ ≤ w.heap.size)
    (hc0 : w.cell? ⟨Bn, 0, none⟩ = some mv) (hc1 : w.cell? ⟨Bn, 1, none⟩ = some pv) (hv : ∀ W', Below n₀ w W' → QView W' mv p.minus ∧ QView W' pv p.plus) (hl : p.minus.length ≤ 4611686018427387904 ∧ p.plus.length ≤ 4611686018427387904) :
    SeqStopsK F n Try.prog 5 #[.pointer (some ⟨Bn, 0, none⟩)] encW (Below n₀) (fun ys => ys = walkL p) (fun pre => pre <+: walkL p) (walkL p).length w := fun l J Jx W hW hJ _ hY h0 =>
  each1_in F n h6 hro hn l Bn n₀ p mv pv J Jx W hJ (Nat.le_trans hn₀ hW.size) hY ((hW.cell (p := ⟨Bn, 0, none⟩) hB).trans hc0) ((hW.cell (p := ⟨Bn, 1, none⟩) hB).trans hc1) (fun W' h => hv W' ((hW.mono hn₀).trans h)) hl h0
end Go.Proofs.Ythipcepgbegaiaa
