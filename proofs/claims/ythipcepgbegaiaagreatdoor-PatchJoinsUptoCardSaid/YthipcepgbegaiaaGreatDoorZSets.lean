/-
  term.Rises, term.two, term.Union, term.Meet, term.Minus: contracts. By an AI agent.
-/
import Derived.Test.YthipcepgbegaiaaGreatDoorZApp
import Derived.Test.YthipcepgbegaiaaGreatDoorZCmp
import Derived.IntWalk
import Derived.Test.YthipcepgbegaiaaGreatDoorZPatch0
import Derived.Test.YthipcepgbegaiaaGreatDoorZStill
namespace Go.Proofs.YthipcepgbegaiaaGreatDoor
open Go.RowKit
set_option maxRecDepth 100000

theorem QOwn.less {b1 b2 : Nat} {v : Value} {l : List QuadL} {w : World} (h : QOwn b2 v l w) (hb : b1 ≤ b2) : QOwn b1 v l w := by
  refine ⟨h.1, ?_⟩
  rcases h.2 with hn | ⟨g, cap, cur, rfl, h1, rest⟩
  · exact .inl hn
  · exact .inr ⟨g, cap, cur, rfl, by omega, rest⟩
theorem compareQuads_s (a b : QuadL) (w : World) : Calls Tryz.prog 84 #[.agg #[.int .i64 a.s.kind, .string (B a.s.text), .string (B a.s.type), .string (B a.s.lang), .int .i64 a.p.kind, .string (B a.p.text), .string (B a.p.type), .string (B a.p.lang), .int .i64 a.o.kind, .string (B a.o.text), .string (B a.o.type), .string (B a.o.lang), .int .i64 a.g.kind, .string (B a.g.text), .string (B a.g.type), .string (B a.g.lang)], .agg #[.int .i64 b.s.kind, .string (B b.s.text), .string (B b.s.type), .string (B b.s.lang), .int .i64 b.p.kind, .string (B b.p.text), .string (B b.p.type), .string (B b.p.lang), .int .i64 b.o.kind, .string (B b.o.text), .string (B b.o.type), .string (B b.o.lang), .int .i64 b.g.kind, .string (B b.g.text), .string (B b.g.type), .string (B b.g.lang)]] w fun e w' => e = .returned (.int .i64 (cmpQ a b)) ∧ Below w.heap.size w w' := compareQuads_l a b w
theorem riseB_step {l : List QuadL} {m : Nat} (h : m + 1 < l.length) : riseB (l.drop m) = (decide (cmpQ (l[m]'(by omega)) l[m + 1] < 0) && riseB (l.drop (m + 1))) := by
  have e : l.drop m = l[m]'(by omega) :: l[m + 1] :: l.drop (m + 2) := by
    rw [List.drop_eq_getElem_cons (by omega), List.drop_eq_getElem_cons h]
  rw [e, riseB, List.drop_eq_getElem_cons h]
theorem riseB_end {l : List QuadL} {m : Nat} (h : l.length ≤ m + 1) : riseB (l.drop m) = true := by
  have : (l.drop m).length ≤ 1 := by simp; omega
  match hd : l.drop m, this with
  | [], _ => rfl
  | [_], _ => rfl
  | _ :: _ :: _, h => simp at h

set_option maxHeartbeats 2000000 in
theorem rises_l (l : List QuadL) (v : Value) (w : World) (hV : QView w v l) (hl : l.length ≤ 4194304) :
    Calls Tryz.prog 149 #[v, .func (.func 84) #[] #[]] w fun e w' => e = .returned (.bool (riseB l)) ∧ Below w.heap.size w w' := by
  obtain ⟨a, c, rfl, _, hQ⟩ := hV
  have HQ := Lib.hid hQ
  have CM0 := Lib.hid (fun (x y : QuadL) (u : World) => compareQuads_s x y u)
  clear hQ
  go_enter Tryz.func149, Tryz.ntmps149
  go_wp2_with fail
  go_loopw [5] (fun i wr => ∃ m : Nat, i = .int .i64 (m + 1) ∧ m ≤ l.length ∧ Below w.heap.size w wr ∧ Hid (riseB l = riseB (l.drop m))) (fun i _ => l.length + 1 - (intOf i).toNat)
  case atStart => exact ⟨0, rfl, Nat.zero_le _, Below.refl _ _, Lib.hid rfl⟩
  case round =>
    obtain ⟨m, rfl, hm, hb, HK⟩ := hrel
    by_cases hlt2 : m + 1 < l.length
    · obtain ⟨b, o, rfl⟩ := HQ.out.place (by omega)
      have hQ2 := HQ.out.below hb
      have r1 := hQ2.get (k := m) (by omega)
      have r2 := hQ2.get (k := m + 1) hlt2
      obtain ⟨x, hx⟩ : ∃ x, l[m] = x := ⟨_, rfl⟩
      obtain ⟨y, hy⟩ : ∃ y, l[m + 1] = y := ⟨_, rfl⟩
      have HS2 := riseB_step hlt2
      rw [hx, hy] at HS2
      have HK2 := Lib.hid (HK.out.trans HS2)
      rw [hx] at r1
      rw [hy] at r2
      obtain ⟨c0, c1, c2, c3, c4, c5, c6, c7, c8, c9, c10, c11, c12, c13, c14, c15⟩ := cells16 r1
      obtain ⟨d0, d1, d2, d3, d4, d5, d6, d7, d8, d9, d10, d11, d12, d13, d14, d15⟩ := cells16 r2
      have BB := Lib.hid hb
      clear hb hQ2 r1 r2 hx hy HS2 HK
      obtain ⟨n, hn⟩ : ∃ n, cmpQ x y = n := ⟨_, rfl⟩
      have CX := CM0.out x y
      rw [hn] at CX HK2
      have CM := Lib.hid CX
      clear CX hn
      by_cases n0 : 0 ≤ n
      · as_aux_lemma =>
        have q9 : decide (0 ≤ n) = true := decide_eq_true n0
        have HE : Hid (riseB l = false) := Lib.hid (by rw [HK2.out, decide_eq_false (by omega)]; rfl)
        clear n0 HK2
        go_wp2_with fail
        have hm2 : m < l.length := by omega
        have hm3 : (0 : Int) ≤ (m : Int) + 1 := by omega
        have W1 : IntKind.i64.wrap (m : Int) = (m : Int) := IntWalk.i64_in _ (by omega)
        refine region_still 10 (by kernel_rfl) (by kernel_rfl) ?_
        simp only [List.take_succ_cons, List.take_zero, List.drop_succ_cons, List.drop_zero]
        repeat still_step
        refine wpStill_nil ?_
        clear W1
        go_wp2_with (go_at_call 84; (with_reducible refine (CM.out _).mono ?_); rintro e w3 ⟨rfl, hb3⟩; have HB3 := Lib.hid (BB.out.trans (((below_drewN _ 1).trans hb3).mono BB.out.size)); clear hb3)
        go_ret
        exact ⟨ret_bool HE.out.symm, HB3.out⟩
      · as_aux_lemma =>
        have q9 : decide (0 ≤ n) = false := decide_eq_false n0
        have HN : Hid (riseB l = riseB (l.drop (m + 1))) := Lib.hid (by rw [HK2.out, decide_eq_true (by omega)]; rfl)
        clear n0 HK2
        go_wp2_with fail
        have hm2 : m < l.length := by omega
        have hm3 : (0 : Int) ≤ (m : Int) + 1 := by omega
        have W1 : IntKind.i64.wrap (m : Int) = (m : Int) := IntWalk.i64_in _ (by omega)
        refine region_still 10 (by kernel_rfl) (by kernel_rfl) ?_
        simp only [List.take_succ_cons, List.take_zero, List.drop_succ_cons, List.drop_zero]
        repeat still_step
        refine wpStill_nil ?_
        clear W1
        go_wp2_with (go_at_call 84; (with_reducible refine (CM.out _).mono ?_); rintro e w3 ⟨rfl, hb3⟩; have HB3 := Lib.hid (BB.out.trans (((below_drewN _ 1).trans hb3).mono BB.out.size)); clear hb3)
        go_roundw
        case rel => exact ⟨m + 1, by go_num, by omega, HB3.out, HN⟩
        case measure => simp [intOf]; omega
    · as_aux_lemma =>
      have HE : Hid (riseB l = true) := Lib.hid (by rw [HK.out, riseB_end (by omega)])
      have q8 : decide ((m : Int) + 1 < (l.length : Int)) = false := decide_eq_false (by omega)
      have BB := Lib.hid hb
      clear hb HK CM0
      go_wp2_with fail
      go_ret
      exact ⟨ret_bool HE.out.symm, BB.out⟩
theorem risesQ_l (l : List QuadL) (v : Value) (w : World) (hV : QView w v l) (hl : l.length ≤ 4194304) :
    Calls Tryz.prog 120 #[v] w fun e w' => e = .returned (.bool (riseB l)) ∧ Below w.heap.size w w' := by
  have R := Lib.hid (rises_l l v w hV hl)
  clear hV
  go_enter Tryz.func120, Tryz.ntmps120
  go_wp2_with (go_at_call 149; (with_reducible refine R.out.mono ?_); rintro e w3 ⟨rfl, hb3⟩)
  go_ret
  exact ⟨rfl, hb3⟩
/-- what merged does, at these flags -/
def MergeOK (f m s : Bool) : Prop := ∀ (a b : List QuadL) (v0 v1 : Value) (w : World), QView w v0 a → QView w v1 b → a.length ≤ 2097152 → b.length ≤ 2097152 →
    Calls Tryz.prog 121 #[v0, v1, .func (.func 84) #[] #[], .bool f, .bool m, .bool s] w fun e w' => ∃ v, e = .returned v ∧ QOwn w.heap.size v (mergeF f m s a b) w' ∧ Below w.heap.size w w'
/-- the merging of two lists that rise; nothing, if one does not -/
def twoS (f m s : Bool) (a b : List QuadL) : List QuadL := if riseB a && riseB b then mergeF f m s a b else []
def twoE (a b : List QuadL) : Int := if riseB a && riseB b then 0 else 6
set_option maxHeartbeats 1000000 in
theorem two_l (f m s : Bool) (hm : MergeOK f m s) (a b : List QuadL) (v0 v1 : Value) (w : World) (h0 : QView w v0 a) (h1 : QView w v1 b) (n0 : a.length ≤ 2097152) (n1 : b.length ≤ 2097152) :
    Calls Tryz.prog 89 #[v0, v1, .bool f, .bool m, .bool s] w fun e w' => ∃ v, e = .returned (.tuple #[v, .int .i64 (twoE a b)]) ∧ QOwn w.heap.size v (twoS f m s a b) w' ∧ Below w.heap.size w w' := by
  have R0 := Lib.hid (risesQ_l a v0 w h0 (by omega))
  have R1 := Lib.hid (fun (u : World) (hb : Below w.heap.size w u) => risesQ_l b v1 u (h1.below hb) (by omega))
  have MG := Lib.hid (fun (u : World) (hb : Below w.heap.size w u) => hm a b v0 v1 u (h0.below hb) (h1.below hb) n0 n1)
  clear h0 h1 hm
  cases ha : riseB a with
  | false =>
    rw [ha] at R0
    have HE : Hid (twoE a b = 6 ∧ twoS f m s a b = []) := Lib.hid (by unfold twoE twoS; rw [ha]; exact ⟨rfl, rfl⟩)
    clear ha
    go_enter Tryz.func89, Tryz.ntmps89
    go_wp2_with (go_at_call 120; (with_reducible refine R0.out.mono ?_); rintro e w3 ⟨rfl, hb3⟩)
    go_ret2
    exact ⟨.slice none 0 0, by rw [HE.out.1]; rfl, by rw [HE.out.2]; exact QOwn.nil _ _, hb3⟩
  | true =>
    rw [ha] at R0
    cases hb : riseB b with
    | false =>
      rw [hb] at R1
      have HE : Hid (twoE a b = 6 ∧ twoS f m s a b = []) := Lib.hid (by unfold twoE twoS; rw [ha, hb]; exact ⟨rfl, rfl⟩)
      clear ha hb
      go_enter Tryz.func89, Tryz.ntmps89
      go_wp2_with (first | (go_at_call 120; (with_reducible refine R0.out.mono ?_); rintro e w3 ⟨rfl, hb3⟩; clear R0) | (go_at_call 120; (with_reducible refine (R1.out _ hb3).mono ?_); rintro e w4 ⟨rfl, hb4⟩; clear R1))
      go_ret2
      exact ⟨.slice none 0 0, by rw [HE.out.1]; rfl, by rw [HE.out.2]; exact QOwn.nil _ _, hb3.trans (hb4.mono hb3.size)⟩
    | true =>
      rw [hb] at R1
      have HE : Hid (twoE a b = 0 ∧ twoS f m s a b = mergeF f m s a b) := Lib.hid (by unfold twoE twoS; rw [ha, hb]; exact ⟨rfl, rfl⟩)
      clear ha hb
      go_enter Tryz.func89, Tryz.ntmps89
      go_wp2_with (first | (go_at_call 120; (with_reducible refine R0.out.mono ?_); rintro e w3 ⟨rfl, hb3⟩; clear R0) | (go_at_call 120; (with_reducible refine (R1.out _ hb3).mono ?_); rintro e w4 ⟨rfl, hb4⟩; clear R1) | (go_at_call 121; (with_reducible refine (MG.out _ (hb3.trans (hb4.mono hb3.size))).mono ?_); rintro e w5 ⟨v, rfl, ho5, hb5⟩; have HX := Lib.hid (And.intro ho5 hb5); clear ho5 hb5))
      go_ret2
      exact ⟨v, by rw [HE.out.1]; rfl, by rw [HE.out.2]; exact QOwn.less HX.out.1 (Nat.le_trans hb3.size hb4.size), (hb3.trans (hb4.mono hb3.size)).trans (HX.out.2.mono (Nat.le_trans hb3.size hb4.size))⟩
end Go.Proofs.YthipcepgbegaiaaGreatDoor
