/-
  tesseralaw07.SameQuads at two lists that are the same: contract. By an AI agent.
-/
import Derived.Test.YtdegonmkikfghaaGreatDoorZApp
import Derived.IntWalk
import Derived.Deep.QuietTactic
import Derived.BigQuiet
import Derived.Test.YtdegonmkikfghaaGreatDoorZRoomy0
import Derived.Deep.Cut
import Derived.Deep.RegionHeld3
namespace Go.Proofs.YtdegonmkikfghaaGreatDoor
open Go.RowKit
set_option maxRecDepth 100000

theorem quadC_arr0 (q : QuadL) : (quadC q).toArray = #[.int .i64 q.s.kind, .string (B q.s.text), .string (B q.s.type), .string (B q.s.lang), .int .i64 q.p.kind, .string (B q.p.text), .string (B q.p.type), .string (B q.p.lang), .int .i64 q.o.kind, .string (B q.o.text), .string (B q.o.type), .string (B q.o.lang), .int .i64 q.g.kind, .string (B q.g.text), .string (B q.g.type), .string (B q.g.lang)] := rfl
set_option maxHeartbeats 1000000 in
theorem neq_self (q : QuadL) (w : World) : (binOp .neq 36 (.agg (quadC q).toArray) (.agg (quadC q).toArray)).run Tryz.prog w = .ok (.bool false) w := by
  obtain ⟨⟨k1, a1, b1, c1⟩, ⟨k2, a2, b2, c2⟩, ⟨k3, a3, b3, c3⟩, ⟨k4, a4, b4, c4⟩⟩ := q
  simp only [quadC, termC, List.cons_append, List.nil_append]
  go_simp
set_option maxHeartbeats 2000000 in
theorem sameQuads_t (l : List QuadL) (v0 v1 : Value) (w : World) (h0 : QView w v0 l) (h1 : QView w v1 l) (hl : l.length ≤ 4194304) :
    Calls Tryz.prog 27 #[v0, v1] w fun e w' => e = .returned (.bool true) ∧ Below w.heap.size w w' := by
  obtain ⟨pa, ca, rfl, _, q0⟩ := h0
  obtain ⟨pb, cb, rfl, _, q1⟩ := h1
  have HA := Lib.hid q0
  have HB := Lib.hid q1
  clear q0 q1
  go_enter Tryz.func27, Tryz.ntmps27
  go_wp2_with fail
  go_loopw [5] (fun i wr => ∃ k : Nat, i = .int .i64 k ∧ k ≤ l.length ∧ Below w.heap.size w wr) (fun i _ => l.length - (intOf i).toNat)
  case atStart => exact ⟨0, rfl, Nat.zero_le _, Below.refl _ _⟩
  case round =>
    obtain ⟨k, rfl, hk, hb⟩ := hrel
    by_cases hlt : k < l.length
    · as_aux_lemma =>
      obtain ⟨b, o, rfl⟩ := HA.out.place (by omega)
      obtain ⟨b2, o2, rfl⟩ := HB.out.place (by omega)
      have r1 := (HA.out.below hb).get hlt
      have r2 := (HB.out.below hb).get hlt
      obtain ⟨x, hx⟩ : ∃ x, l[k] = x := ⟨_, rfl⟩
      rw [hx] at r1 r2
      have NE := fun u => neq_self x u
      rw [quadC_arr0] at NE
      obtain ⟨c0, c1, c2, c3, c4, c5, c6, c7, c8, c9, c10, c11, c12, c13, c14, c15⟩ := cells16 r1
      obtain ⟨d0, d1, d2, d3, d4, d5, d6, d7, d8, d9, d10, d11, d12, d13, d14, d15⟩ := cells16 r2
      have BB := Lib.hid hb
      clear hb r1 r2 hx
      have hk3 : (0 : Int) ≤ (k : Int) := by omega
      go_wp2_with fail
      go_quiet (fail)
      go_wp2_with fail
      go_roundw
      case rel => exact ⟨k + 1, by go_num, hlt, below_drewN BB.out _⟩
      case measure => simp [intOf]; omega
    · as_aux_lemma =>
      obtain rfl : k = l.length := by omega
      have BB := Lib.hid hb
      clear hb
      go_wp2_with fail
      go_ret
      exact ⟨rfl, BB.out⟩
end Go.Proofs.YtdegonmkikfghaaGreatDoor

/-
  tesseralaw07.mark, Roomy, Kept: contracts. By an AI agent.
-/
namespace Go.Proofs.YtdegonmkikfghaaGreatDoor
open Go.RowKit
set_option maxRecDepth 100000

set_option maxHeartbeats 1000000 in
theorem mark_l (w : World) : Calls Tryz.prog 34 #[] w fun e w' => e = .returned (qv markQ) ∧ Below w.heap.size w w' := by
  have HB1 : Hid (∀ o1, Below w.heap.size w (w.alloc o1)) := Lib.hid (fun o1 => (Below.refl _ _).alloc (Nat.le_refl _) _)
  go_enter Tryz.func34, Tryz.ntmps34
  go_wp2_with fail
  refine bodyPost_ret (v := qv markQ) (by simp [results, Tryz.results34, go_sem]; exact ⟨rfl, rfl, rfl, rfl, rfl, rfl, rfl, rfl, rfl, rfl, rfl, rfl, rfl, rfl, rfl, rfl⟩) rfl ?_
  exact ⟨rfl, HB1.out _⟩
set_option maxHeartbeats 2000000 in
theorem roomyB_l (l : List QuadL) (v : Value) (w : World) (hV : QView w v l) (hn : l.length ≤ 1048576) :
    Calls Tryz.prog 12 #[v] w fun e w' => e = .returned (.slice (some ⟨w.heap.size, 0, none⟩) l.length (l.length + 2)) ∧ QAt w' (some ⟨w.heap.size, 0, none⟩) (l ++ [markQ, markQ]) ∧ Below w.heap.size w w' := by
  obtain ⟨a, c, rfl, _, hQ⟩ := hV
  have HQ := Lib.hid hQ
  have MK := Lib.hid mark_l
  clear hQ
  go_enter Tryz.func12, Tryz.ntmps12
  go_wp2_with (first | (refine wpList_make_quads rfl (.tmp 5) (.tmp 8) rfl l.length 2 (l.length : Int) ((l.length : Int) + 2) rfl rfl rfl rfl (by omega) ?_; intro w1 xs ho hg; have HO1 := Lib.hid ho; have HG1 := Lib.hid (belowR hg (Nat.le_refl _) (fun k hk => by cases hk)); clear ho hg) | (refine wpList_copy_quads rfl (.tmp 10) (.tmp 11) rfl w.heap.size w.heap.size l.length (l.length + 2) _ rfl HO1.out a c rfl l rfl (HQ.out.below HG1.out) ?_; intro w2 ho hg; have HO2 := Lib.hid ho; have HB2 := Lib.hid (HG1.out.trans (belowR hg HG1.out.size (fun k hk => by cases hk; exact Nat.le_refl _))); clear ho hg HO1 HG1) | (go_at_call 34; (with_reducible refine (MK.out _).mono ?_); rintro e w3 ⟨rfl, hb⟩; have HO3 := Lib.hid (ownsRow_below HO2.out hb); have HB3 := Lib.hid (HB2.out.trans (hb.mono HB2.out.size)); clear HO2 HB2 hb; have HO2 := HO3; have HB2 := HB3; clear HO3 HB3) | (refine wpList_build2 rfl (.tmp 14) (.tmp 15) rfl markQ markQ rfl rfl ?_) | (at_builtin; refine wpList_append_room rfl (.tmp 13) (.tmp 16) rfl w.heap.size w.heap.size l.length (l.length + 2) l rfl rfl (HO2.out.alloc _) _ 2 [markQ, markQ] rfl (at_row _ (quadsC [markQ, markQ]) 36) (by simp) ?_; intro w5 ho hg; have HO5 := Lib.hid ho; have HB5 := Lib.hid ((HB2.out.alloc HB2.out.size _).trans (belowR hg (by have := HB2.out.size; simp; omega) (fun k hk => by cases hk; exact Nat.le_refl _))); clear ho hg))
  go_ret
  refine ⟨rfl, ?_, HB5.out⟩
  obtain ⟨a', cap', he, _, hq⟩ := HO5.out.view
  injection he with e1 _ _
  subst e1
  exact hq
set_option maxHeartbeats 2000000 in
theorem kept_l (l : List QuadL) (u v : Value) (w : World) (hU : RoomyAt w u l) (hV : QView w v l) (hn : l.length ≤ 1048576) :
    Calls Tryz.prog 15 #[u, v] w fun e w' => e = .returned (.bool true) ∧ Below w.heap.size w w' := by
  obtain ⟨g, rfl, hG⟩ := id hU
  obtain ⟨a, c, rfl, _, hQ⟩ := id hV
  have hl : (l ++ [markQ, markQ]).length = l.length + 2 := by simp
  have g1 := hG.get (k := l.length) (by omega)
  have g2 := hG.get (k := l.length + 1) (by omega)
  rw [List.getElem_append_right (by omega)] at g1 g2
  simp only [Nat.zero_add, Nat.sub_self, List.getElem_cons_zero, Nat.add_sub_cancel_left, List.getElem_cons_succ] at g1 g2
  have MK : Hid (∀ x, Calls Tryz.prog 34 #[] x fun e w' => e = .returned (qv markQ) ∧ Below x.heap.size x w') := Lib.hid mark_l
  have EM := fun x => eql_q markQ markQ x
  rw [decide_eq_true rfl] at EM
  obtain ⟨mq, hmq⟩ : ∃ q, markQ = q := ⟨_, rfl⟩
  rw [hmq] at g1 g2 EM MK
  have EM2 : ∀ x, (binOp .eql 36 (.agg #[.int .i64 mq.s.kind, .string (B mq.s.text), .string (B mq.s.type), .string (B mq.s.lang), .int .i64 mq.p.kind, .string (B mq.p.text), .string (B mq.p.type), .string (B mq.p.lang), .int .i64 mq.o.kind, .string (B mq.o.text), .string (B mq.o.type), .string (B mq.o.lang), .int .i64 mq.g.kind, .string (B mq.g.text), .string (B mq.g.type), .string (B mq.g.lang)]) (.agg #[.int .i64 mq.s.kind, .string (B mq.s.text), .string (B mq.s.type), .string (B mq.s.lang), .int .i64 mq.p.kind, .string (B mq.p.text), .string (B mq.p.type), .string (B mq.p.lang), .int .i64 mq.o.kind, .string (B mq.o.text), .string (B mq.o.type), .string (B mq.o.lang), .int .i64 mq.g.kind, .string (B mq.g.text), .string (B mq.g.type), .string (B mq.g.lang)])).run Tryz.prog x = .ok (.bool true) x := EM
  have MK2 : Hid (∀ x, Calls Tryz.prog 34 #[] x fun e w' => e = .returned (.agg #[.int .i64 mq.s.kind, .string (B mq.s.text), .string (B mq.s.type), .string (B mq.s.lang), .int .i64 mq.p.kind, .string (B mq.p.text), .string (B mq.p.type), .string (B mq.p.lang), .int .i64 mq.o.kind, .string (B mq.o.text), .string (B mq.o.type), .string (B mq.o.lang), .int .i64 mq.g.kind, .string (B mq.g.text), .string (B mq.g.type), .string (B mq.g.lang)]) ∧ Below x.heap.size x w') := Lib.hid MK.out
  have SB : Hid (∀ w', Below w.heap.size w w' → w'.cell? ⟨g, l.length * 16, none⟩ = some (.int .i64 mq.s.kind) ∧ w'.cell? ⟨g, l.length * 16 + 1, none⟩ = some (.string (B mq.s.text)) ∧ w'.cell? ⟨g, l.length * 16 + 2, none⟩ = some (.string (B mq.s.type)) ∧ w'.cell? ⟨g, l.length * 16 + 3, none⟩ = some (.string (B mq.s.lang)) ∧ w'.cell? ⟨g, l.length * 16 + 4, none⟩ = some (.int .i64 mq.p.kind) ∧ w'.cell? ⟨g, l.length * 16 + 5, none⟩ = some (.string (B mq.p.text)) ∧ w'.cell? ⟨g, l.length * 16 + 6, none⟩ = some (.string (B mq.p.type)) ∧ w'.cell? ⟨g, l.length * 16 + 7, none⟩ = some (.string (B mq.p.lang)) ∧ w'.cell? ⟨g, l.length * 16 + 8, none⟩ = some (.int .i64 mq.o.kind) ∧ w'.cell? ⟨g, l.length * 16 + 9, none⟩ = some (.string (B mq.o.text)) ∧ w'.cell? ⟨g, l.length * 16 + 10, none⟩ = some (.string (B mq.o.type)) ∧ w'.cell? ⟨g, l.length * 16 + 11, none⟩ = some (.string (B mq.o.lang)) ∧ w'.cell? ⟨g, l.length * 16 + 12, none⟩ = some (.int .i64 mq.g.kind) ∧ w'.cell? ⟨g, l.length * 16 + 13, none⟩ = some (.string (B mq.g.text)) ∧ w'.cell? ⟨g, l.length * 16 + 14, none⟩ = some (.string (B mq.g.type)) ∧ w'.cell? ⟨g, l.length * 16 + 15, none⟩ = some (.string (B mq.g.lang)) ∧ w'.cell? ⟨g, (l.length + 1) * 16, none⟩ = some (.int .i64 mq.s.kind) ∧ w'.cell? ⟨g, (l.length + 1) * 16 + 1, none⟩ = some (.string (B mq.s.text)) ∧ w'.cell? ⟨g, (l.length + 1) * 16 + 2, none⟩ = some (.string (B mq.s.type)) ∧ w'.cell? ⟨g, (l.length + 1) * 16 + 3, none⟩ = some (.string (B mq.s.lang)) ∧ w'.cell? ⟨g, (l.length + 1) * 16 + 4, none⟩ = some (.int .i64 mq.p.kind) ∧ w'.cell? ⟨g, (l.length + 1) * 16 + 5, none⟩ = some (.string (B mq.p.text)) ∧ w'.cell? ⟨g, (l.length + 1) * 16 + 6, none⟩ = some (.string (B mq.p.type)) ∧ w'.cell? ⟨g, (l.length + 1) * 16 + 7, none⟩ = some (.string (B mq.p.lang)) ∧ w'.cell? ⟨g, (l.length + 1) * 16 + 8, none⟩ = some (.int .i64 mq.o.kind) ∧ w'.cell? ⟨g, (l.length + 1) * 16 + 9, none⟩ = some (.string (B mq.o.text)) ∧ w'.cell? ⟨g, (l.length + 1) * 16 + 10, none⟩ = some (.string (B mq.o.type)) ∧ w'.cell? ⟨g, (l.length + 1) * 16 + 11, none⟩ = some (.string (B mq.o.lang)) ∧ w'.cell? ⟨g, (l.length + 1) * 16 + 12, none⟩ = some (.int .i64 mq.g.kind) ∧ w'.cell? ⟨g, (l.length + 1) * 16 + 13, none⟩ = some (.string (B mq.g.text)) ∧ w'.cell? ⟨g, (l.length + 1) * 16 + 14, none⟩ = some (.string (B mq.g.type)) ∧ w'.cell? ⟨g, (l.length + 1) * 16 + 15, none⟩ = some (.string (B mq.g.lang))) := Lib.hid (fun w' hb => by
    have k1 := range_below g1 hb
    have k2 := range_below g2 hb
    exact ⟨k1 0 _ rfl, k1 1 _ rfl, k1 2 _ rfl, k1 3 _ rfl, k1 4 _ rfl, k1 5 _ rfl, k1 6 _ rfl, k1 7 _ rfl, k1 8 _ rfl, k1 9 _ rfl, k1 10 _ rfl, k1 11 _ rfl, k1 12 _ rfl, k1 13 _ rfl, k1 14 _ rfl, k1 15 _ rfl, k2 0 _ rfl, k2 1 _ rfl, k2 2 _ rfl, k2 3 _ rfl, k2 4 _ rfl, k2 5 _ rfl, k2 6 _ rfl, k2 7 _ rfl, k2 8 _ rfl, k2 9 _ rfl, k2 10 _ rfl, k2 11 _ rfl, k2 12 _ rfl, k2 13 _ rfl, k2 14 _ rfl, k2 15 _ rfl⟩)
  have SQ := Lib.hid (fun (x : World) (hb : Below w.heap.size w x) => sameQuads_t l _ _ x (hU.view.below hb) (hV.below hb) (by omega))
  have HB7 : Hid (Below w.heap.size w w.drew) := Lib.hid (below_drewN (Below.refl _ w) 1)
  clear hU hV hG hQ g1 g2 hl EM MK hmq
  obtain ⟨N, hN⟩ : ∃ N, l.length + 2 = N := ⟨_, rfl⟩
  rw [hN] at SQ ⊢
  have i0 : (0 : Int) ≤ (l.length : Int) := by omega
  have i1 : (l.length : Int) ≤ (N : Int) := by omega
  have i2 : (l.length : Int) < (N : Int) := by omega
  have i3 : (l.length : Int) + 1 < (N : Int) := by omega
  have i4 : (0 : Int) ≤ (l.length : Int) + 1 := by omega
  have i5 : (0 : Int) ≤ (N : Int) := by omega
  have i6 : l.length ≤ N := by omega
  have W0 : IntKind.i64.wrap ((l.length : Int) + 2) = (N : Int) := by rw [IntWalk.i64_in _ (by omega)]; omega
  have W1 : IntKind.i64.wrap ((l.length : Int) + 1) = (l.length : Int) + 1 := IntWalk.i64_in _ (by omega)
  have W3 : ((l.length : Int) + 1).toNat = l.length + 1 := by omega
  clear hN
  go_enter Tryz.func15, Tryz.ntmps15
  go_wp2_with fail
  go_region_held3 (fun w' => w'.cell? ⟨g, l.length * 16, none⟩ = some (.int .i64 mq.s.kind) ∧ w'.cell? ⟨g, l.length * 16 + 1, none⟩ = some (.string (B mq.s.text)) ∧ w'.cell? ⟨g, l.length * 16 + 2, none⟩ = some (.string (B mq.s.type)) ∧ w'.cell? ⟨g, l.length * 16 + 3, none⟩ = some (.string (B mq.s.lang)) ∧ w'.cell? ⟨g, l.length * 16 + 4, none⟩ = some (.int .i64 mq.p.kind) ∧ w'.cell? ⟨g, l.length * 16 + 5, none⟩ = some (.string (B mq.p.text)) ∧ w'.cell? ⟨g, l.length * 16 + 6, none⟩ = some (.string (B mq.p.type)) ∧ w'.cell? ⟨g, l.length * 16 + 7, none⟩ = some (.string (B mq.p.lang)) ∧ w'.cell? ⟨g, l.length * 16 + 8, none⟩ = some (.int .i64 mq.o.kind) ∧ w'.cell? ⟨g, l.length * 16 + 9, none⟩ = some (.string (B mq.o.text)) ∧ w'.cell? ⟨g, l.length * 16 + 10, none⟩ = some (.string (B mq.o.type)) ∧ w'.cell? ⟨g, l.length * 16 + 11, none⟩ = some (.string (B mq.o.lang)) ∧ w'.cell? ⟨g, l.length * 16 + 12, none⟩ = some (.int .i64 mq.g.kind) ∧ w'.cell? ⟨g, l.length * 16 + 13, none⟩ = some (.string (B mq.g.text)) ∧ w'.cell? ⟨g, l.length * 16 + 14, none⟩ = some (.string (B mq.g.type)) ∧ w'.cell? ⟨g, l.length * 16 + 15, none⟩ = some (.string (B mq.g.lang)) ∧ w'.cell? ⟨g, (l.length + 1) * 16, none⟩ = some (.int .i64 mq.s.kind) ∧ w'.cell? ⟨g, (l.length + 1) * 16 + 1, none⟩ = some (.string (B mq.s.text)) ∧ w'.cell? ⟨g, (l.length + 1) * 16 + 2, none⟩ = some (.string (B mq.s.type)) ∧ w'.cell? ⟨g, (l.length + 1) * 16 + 3, none⟩ = some (.string (B mq.s.lang)) ∧ w'.cell? ⟨g, (l.length + 1) * 16 + 4, none⟩ = some (.int .i64 mq.p.kind) ∧ w'.cell? ⟨g, (l.length + 1) * 16 + 5, none⟩ = some (.string (B mq.p.text)) ∧ w'.cell? ⟨g, (l.length + 1) * 16 + 6, none⟩ = some (.string (B mq.p.type)) ∧ w'.cell? ⟨g, (l.length + 1) * 16 + 7, none⟩ = some (.string (B mq.p.lang)) ∧ w'.cell? ⟨g, (l.length + 1) * 16 + 8, none⟩ = some (.int .i64 mq.o.kind) ∧ w'.cell? ⟨g, (l.length + 1) * 16 + 9, none⟩ = some (.string (B mq.o.text)) ∧ w'.cell? ⟨g, (l.length + 1) * 16 + 10, none⟩ = some (.string (B mq.o.type)) ∧ w'.cell? ⟨g, (l.length + 1) * 16 + 11, none⟩ = some (.string (B mq.o.lang)) ∧ w'.cell? ⟨g, (l.length + 1) * 16 + 12, none⟩ = some (.int .i64 mq.g.kind) ∧ w'.cell? ⟨g, (l.length + 1) * 16 + 13, none⟩ = some (.string (B mq.g.text)) ∧ w'.cell? ⟨g, (l.length + 1) * 16 + 14, none⟩ = some (.string (B mq.g.type)) ∧ w'.cell? ⟨g, (l.length + 1) * 16 + 15, none⟩ = some (.string (B mq.g.lang))) (exact SB.out _ HB7.out) (first | (go_at_call 27; (with_reducible refine (SQ.out _ HB7.out).mono ?_); rintro e w3 ⟨rfl, hb⟩; have HB8 := Lib.hid (HB7.out.trans (hb.mono HB7.out.size)); clear HB7 hb; have HB7 := HB8; clear HB8) | (go_at_call 34; (with_reducible refine (MK2.out _).mono ?_); rintro e w4 ⟨rfl, hb⟩; have HB8 := Lib.hid (HB7.out.trans (hb.mono HB7.out.size)); clear HB7 hb; have HB7 := HB8; clear HB8))
  go_wp2_with fail
  go_ret
  exact ⟨rfl, HB7.out⟩
end Go.Proofs.YtdegonmkikfghaaGreatDoor
