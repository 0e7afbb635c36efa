/-
  tesseralaw10.told: a contract. By an AI agent.
-/
import Derived.Test.YtdhmpakhdhdebaaGreatDoorZLexR16
namespace Go.Proofs.YtdhmpakhdhdebaaGreatDoor
open Go.Lib (hid)
open Go.RowKit Go.Shelf
set_option maxRecDepth 1000000
attribute [local go_sem] Oper.semAt_some encT tokV
structure ToAt (w : World) (most : Int) (n1 c : Nat) (ts : List TokL) (v : Value) (P N m : Int) (W : World) : Prop where
 bm : Boxed W w.heap.size 3 (.int .i64 most)
 b5 : RowAt W (w.heap.size + 1) [.int .i64 0, .int .i64 0]
 bl : Boxed W (w.heap.size + 1 + 1) 44 v
 ow : TOwn (c + 1) v ts W
 bf : RowAt W (w.heap.size + 1 + 1 + 1) [.int .i64 P, .int .i64 N]
 bo : Boxed W (w.heap.size + 1 + 1 + 1 + 1) 4 (.bool false)
 bn : Boxed W (w.heap.size + 1 + 1 + 1 + 1 + 1) 3 (.int .i64 m)
 lt : n1 <= W.heap.size
 nc : n1 <= c
 nw : w.heap.size + 6 <= n1
 bw : Below w.heap.size w W
theorem ToAt.keep {w : World} {most : Int} {n1 c : Nat} {ts : List TokL} {v : Value} {P N m : Int} {W W' : World} {row : Option Nat} (h : ToAt w most n1 c ts v P N m W) (hg : W.grownBy W' row) (hr : ∀ r, row = some r -> n1 <= r /\ (r = c \/ ∃ o : Obj, W.heap[r]? = some o /\ o.isCells = false)) : ToAt w most n1 c ts v P N m W' := by
 have hw := h.nw
 have hl := h.lt
 have hne : ∀ g, g < n1 -> some g ≠ row := fun g hg e => by have := (hr g e.symm).1; omega
 refine ⟨h.bm.kept hg (hne _ (by omega)), RowAt.grown h.b5 hg (hne _ (by omega)) (by omega), h.bl.kept hg (hne _ (by omega)), tok_grown h.ow hg (fun k hk e => ?_), RowAt.grown h.bf hg (hne _ (by omega)) (by omega), h.bo.kept hg (hne _ (by omega)), h.bn.kept hg (hne _ (by omega)), Nat.le_trans h.lt hg.size, h.nc, h.nw, h.bw.grown hg h.bw.size (fun k e => by have := (hr k e).1; omega)⟩
 obtain ⟨_, hx⟩ := hr k e.symm
 have hb := (tok_base h.ow k hk).1
 rcases hx with rfl | ⟨o, ho, hc⟩
 ·omega
 ·rw [tok_cells h.ow k o hk ho] at hc; cases hc
def ToWhat (r : List TokL × Option (Nat × Int)) (ts : List TokL) (P N : Int) (xs : List (TokL × Value)) : Prop :=
 (xs = okT ts /\ P = 0 /\ N = 0 /\ ∃ rest, r.1 = ts ++ rest) \/ (∃ ev q, ev ≠ .nilIface /\ r.2 = some q /\ xs = okT r.1 ++ [(noTok, ev)] /\ ts = r.1 /\ P = (q.1 : Int) /\ N = q.2)
def ToJ (w : World) (most : Int) (n1 : Nat) (r : List TokL × Option (Nat × Int)) (c : Nat) (xs : List (TokL × Value)) (W : World) : Prop := ∃ ts v P N, ToAt w most n1 c ts v P N xs.length W /\ (xs.length : Int) < most /\ ToWhat r ts P N xs
def ToX (w : World) (most : Int) (n1 : Nat) (r : List TokL × Option (Nat × Int)) (k : Code) (c : Nat) (xs : List (TokL × Value)) (W : World) : Prop := k = .exit 0 /\ ∃ ts v P N, ToAt w most n1 c ts v P N xs.length W /\ (xs.length : Int) = most /\ ToWhat r ts P N xs
theorem toJ_priv (w : World) (most : Int) (n1 : Nat) (r : List TokL × Option (Nat × Int)) : PrivFrom n1 (ToJ w most n1 r) := by
 rintro c xs X Y row ⟨ts, v, P, N, h, h1, h2⟩ hg hr
 exact ⟨ts, v, P, N, h.keep hg hr, h1, h2⟩
theorem to_start (s : List UInt8) (most : Int) (w W : World) (hW : ((((((w.alloc (.cells #[.int .i64 most] 3)).alloc (.cells #[.int .i64 0, .int .i64 0] 64)).alloc (.cells #[.slice none 0 0] 44)).alloc (.cells #[.int .i64 0, .int .i64 0] 64)).alloc (.cells #[.bool false] 4)).alloc (.cells #[.int .i64 0] 3)).alloc (.cells #[.string (B s)] 9) = W) : Boxed W w.heap.size 3 (.int .i64 most) /\ RowAt W (w.heap.size + 1) [.int .i64 0, .int .i64 0] /\ Boxed W (w.heap.size + 1 + 1) 44 (.slice none 0 0) /\ RowAt W (w.heap.size + 1 + 1 + 1) [.int .i64 0, .int .i64 0] /\ Boxed W (w.heap.size + 1 + 1 + 1 + 1) 4 (.bool false) /\ Boxed W (w.heap.size + 1 + 1 + 1 + 1 + 1) 3 (.int .i64 0) /\ W.heap[w.heap.size + 1 + 1 + 1 + 1 + 1 + 1]? = some (.cells #[.string (B s)] 9 (0, 0)) /\ W.heap.size = w.heap.size + 7 /\ Below w.heap.size w W := by
 subst hW
 have x0 := Boxed.new w 3 (.int .i64 most)
 have x1 := heap_alloc_new ((w.alloc (.cells #[.int .i64 most] 3))) (.cells #[.int .i64 0, .int .i64 0] 64)
 have x2 := Boxed.new (((w.alloc (.cells #[.int .i64 most] 3)).alloc (.cells #[.int .i64 0, .int .i64 0] 64))) 44 (.slice none 0 0)
 have x3 := heap_alloc_new ((((w.alloc (.cells #[.int .i64 most] 3)).alloc (.cells #[.int .i64 0, .int .i64 0] 64)).alloc (.cells #[.slice none 0 0] 44))) (.cells #[.int .i64 0, .int .i64 0] 64)
 have x4 := Boxed.new (((((w.alloc (.cells #[.int .i64 most] 3)).alloc (.cells #[.int .i64 0, .int .i64 0] 64)).alloc (.cells #[.slice none 0 0] 44)).alloc (.cells #[.int .i64 0, .int .i64 0] 64))) 4 (.bool false)
 have x5 := Boxed.new ((((((w.alloc (.cells #[.int .i64 most] 3)).alloc (.cells #[.int .i64 0, .int .i64 0] 64)).alloc (.cells #[.slice none 0 0] 44)).alloc (.cells #[.int .i64 0, .int .i64 0] 64)).alloc (.cells #[.bool false] 4))) 3 (.int .i64 0)
 have x6 := heap_alloc_new (((((((w.alloc (.cells #[.int .i64 most] 3)).alloc (.cells #[.int .i64 0, .int .i64 0] 64)).alloc (.cells #[.slice none 0 0] 44)).alloc (.cells #[.int .i64 0, .int .i64 0] 64)).alloc (.cells #[.bool false] 4)).alloc (.cells #[.int .i64 0] 3))) (.cells #[.string (B s)] 9)
 simp only [World.size_alloc] at x1 x2 x3 x4 x5 x6
 have y1 := rowAt_of_heap x1
 have y3 := rowAt_of_heap x3
 have al : ∀ {W : World} {g : Nat} {vs : List Value} (o : Obj), RowAt W g vs -> g < W.heap.size -> RowAt (W.alloc o) g vs := fun o h hg => RowAt.below h ((Below.refl _ _).alloc (Nat.le_refl _) o) hg
 refine ⟨(((((x0.alloc _).alloc _).alloc _).alloc _).alloc _).alloc _, al _ (al _ (al _ (al _ (al _ y1 ?_) ?_) ?_) ?_) ?_, (((x2.alloc _).alloc _).alloc _).alloc _, al _ (al _ (al _ y3 ?_) ?_) ?_, (x4.alloc _).alloc _, x5.alloc _, x6, by simp, ?_⟩
 all_goals first | (simp; done) | (simp; omega) | exact (((((((Below.refl _ _).alloc (Nat.le_refl _) _).alloc (by simp) _).alloc (by simp; omega) _).alloc (by simp; omega) _).alloc (by simp; omega) _).alloc (by simp; omega) _).alloc (by simp; omega) _
theorem ToAt.setm {w : World} {most : Int} {n1 c : Nat} {ts : List TokL} {v : Value} {P N m : Int} {W : World} (h : ToAt w most n1 c ts v P N m W) (hcW : c < W.heap.size) : (KeepsFrom n1 W (W.setCell ⟨w.heap.size + 1 + 1 + 1 + 1, 0, none⟩ (.bool false)) /\ KpT w.heap.size c W (W.setCell ⟨w.heap.size + 1 + 1 + 1 + 1, 0, none⟩ (.bool false))) /\ ToAt w most n1 c ts v P N m (W.setCell ⟨w.heap.size + 1 + 1 + 1 + 1, 0, none⟩ (.bool false)) := by
 have hw := h.nw
 have hc := h.nc
 have hl := h.lt
 have hg := grownBy_setCell' W (w.heap.size + 1 + 1 + 1 + 1) (.bool false)
 have hne : ∀ g, g ≠ w.heap.size + 1 + 1 + 1 + 1 -> some g ≠ some (w.heap.size + 1 + 1 + 1 + 1) := fun g hg e => hg (Option.some.inj e)
 refine ⟨⟨(KeepsOthers.setCell _ _ _).from _, (Below.refl _ W).setCell (p := ⟨w.heap.size + 1 + 1 + 1 + 1, 0, none⟩) (by show w.heap.size <= w.heap.size + 1 + 1 + 1 + 1; omega) _, RowKit.Below.heap_setCell _ _ _ _ (by show c ≠ w.heap.size + 1 + 1 + 1 + 1; omega)⟩, h.bm.kept hg (hne _ (by omega)), RowAt.grown h.b5 hg (hne _ (by omega)) (by omega), h.bl.kept hg (hne _ (by omega)), tok_grown h.ow hg (fun k hk e => by have := (tok_base h.ow k hk).1; have := Option.some.inj e; omega), RowAt.grown h.bf hg (hne _ (by omega)) (by omega), h.bo.set _, h.bn.kept hg (hne _ (by omega)), by simpa using hl, hc, hw, h.bw.setCell (p := ⟨w.heap.size + 1 + 1 + 1 + 1, 0, none⟩) (by show w.heap.size <= w.heap.size + 1 + 1 + 1 + 1; omega) _⟩
theorem ToAt.setn {w : World} {most : Int} {n1 c : Nat} {ts : List TokL} {v : Value} {P N m : Int} {W : World} (h : ToAt w most n1 c ts v P N m W) (hcW : c < W.heap.size) (k : Int) : (KeepsFrom n1 W (W.setCell ⟨w.heap.size + 1 + 1 + 1 + 1 + 1, 0, none⟩ (.int .i64 k)) /\ KpT w.heap.size c W (W.setCell ⟨w.heap.size + 1 + 1 + 1 + 1 + 1, 0, none⟩ (.int .i64 k))) /\ ToAt w most n1 c ts v P N k (W.setCell ⟨w.heap.size + 1 + 1 + 1 + 1 + 1, 0, none⟩ (.int .i64 k)) := by
 have hw := h.nw
 have hc := h.nc
 have hl := h.lt
 have hg := grownBy_setCell' W (w.heap.size + 1 + 1 + 1 + 1 + 1) (.int .i64 k)
 have hne : ∀ g, g ≠ w.heap.size + 1 + 1 + 1 + 1 + 1 -> some g ≠ some (w.heap.size + 1 + 1 + 1 + 1 + 1) := fun g hg e => hg (Option.some.inj e)
 refine ⟨⟨(KeepsOthers.setCell _ _ _).from _, (Below.refl _ W).setCell (p := ⟨w.heap.size + 1 + 1 + 1 + 1 + 1, 0, none⟩) (by show w.heap.size <= w.heap.size + 1 + 1 + 1 + 1 + 1; omega) _, RowKit.Below.heap_setCell _ _ _ _ (by show c ≠ w.heap.size + 1 + 1 + 1 + 1 + 1; omega)⟩, h.bm.kept hg (hne _ (by omega)), RowAt.grown h.b5 hg (hne _ (by omega)) (by omega), h.bl.kept hg (hne _ (by omega)), tok_grown h.ow hg (fun k hk e => by have := (tok_base h.ow k hk).1; have := Option.some.inj e; omega), RowAt.grown h.bf hg (hne _ (by omega)) (by omega), h.bo.kept hg (hne _ (by omega)), h.bn.set _, by simpa using hl, hc, hw, h.bw.setCell (p := ⟨w.heap.size + 1 + 1 + 1 + 1 + 1, 0, none⟩) (by show w.heap.size <= w.heap.size + 1 + 1 + 1 + 1 + 1; omega) _⟩
theorem ToAt.grow {w : World} {most : Int} {n1 c : Nat} {ts : List TokL} {va : Option Addr} {vc : Nat} {P N m : Int} {W w6 : World} {o : Obj} {t : TokL} {g' cap' : Nat} (h : ToAt w most n1 c ts (.slice va ts.length vc) P N m W) (hcW : c < W.heap.size)
  (O6 : w6.ownsRow (c + 1) 50 6 (.slice (some ⟨g', 0, none⟩) (ts.length + 1) cap') (ts.length + 1) (toksC ts ++ tokC t)) (R6 : (W.alloc o).grownBy w6 (Value.slice va ts.length vc).ownBlock) :
  (KeepsFrom n1 W (w6.setCell ⟨w.heap.size + 1 + 1, 0, none⟩ (.slice (some ⟨g', 0, none⟩) (ts.length + 1) cap')) /\ KpT w.heap.size c W (w6.setCell ⟨w.heap.size + 1 + 1, 0, none⟩ (.slice (some ⟨g', 0, none⟩) (ts.length + 1) cap'))) /\ ToAt w most n1 c (ts ++ [t]) (.slice (some ⟨g', 0, none⟩) (ts.length + 1) cap') P N m (w6.setCell ⟨w.heap.size + 1 + 1, 0, none⟩ (.slice (some ⟨g', 0, none⟩) (ts.length + 1) cap')) := by
 have hw := h.nw
 have hc := h.nc
 have hl := h.lt
 have OA : TOwn (c + 1) (.slice va ts.length vc) ts (W.alloc o) := World.ownsRow.alloc h.ow _
 have KK : ∀ k, k <= c -> k ≠ w.heap.size + 1 + 1 -> (w6.setCell ⟨w.heap.size + 1 + 1, 0, none⟩ (.slice (some ⟨g', 0, none⟩) (ts.length + 1) cap')).heap[k]? = W.heap[k]? := fun k h1 h2 => by
  rw [RowKit.Below.heap_setCell _ _ _ _ h2, R6.block k (by simp; omega) (fun e => by have := (tok_base OA k e.symm).1; omega)]; exact (World.grownBy_alloc W o none).block k (by omega) (by simp)
 have b1 : Below w.heap.size W (W.alloc o) := (Below.refl _ _).alloc (by have := h.bw.size; omega) _
 have b2 := b1.grown R6 (by have := h.bw.size; simp; omega) (fun k e => by have := (tok_base OA k e).1; omega)
 have b3 := b2.setCell (p := ⟨w.heap.size + 1 + 1, 0, none⟩) (by show w.heap.size <= w.heap.size + 1 + 1; omega) (.slice (some ⟨g', 0, none⟩) (ts.length + 1) cap')
 have ho : TOwn (c + 1) (.slice (some ⟨g', 0, none⟩) (ts.length + 1) cap') (ts ++ [t]) w6 := by
  unfold TOwn
  rw [List.length_append, List.length_singleton, toksC_snoc]
  exact O6
 have x6 := ((h.bl.alloc o).kept R6 (h.bl.not_row (by decide) h.ow)).set (.slice (some ⟨g', 0, none⟩) (ts.length + 1) cap')
 refine ⟨⟨((KeepsOthers.alloc W _).from n1).trans (((KeepsOthers.of_grownBy R6 (fun j o hj ho => tok_cells OA j o hj ho)).from n1).trans ((KeepsOthers.setCell w6 _ _).from n1)), b3, KK c (Nat.le_refl _) (by omega)⟩, (KK _ (by omega) (by omega)).trans h.bm, rowAt_block h.b5 (KK _ (by omega) (by omega)), x6, tok_grown ho (grownBy_setCell' w6 (w.heap.size + 1 + 1) _) (fun k hk e => by have h1 := (tok_base ho k hk).1; have h2 := Option.some.inj e; omega), rowAt_block h.bf (KK _ (by omega) (by omega)), (KK _ (by omega) (by omega)).trans h.bo, (KK _ (by omega) (by omega)).trans h.bn, Nat.le_trans hl b3.size, hc, hw, h.bw.trans b3⟩
theorem kp_trans {w A C D : World} {n1 c : Nat} (h : KeepsFrom n1 A C /\ KpT w.heap.size c A C) (k : KeepsFrom n1 C D /\ KpT w.heap.size c C D) : KeepsFrom n1 A D /\ KpT w.heap.size c A D := ⟨h.1.trans k.1, h.2.1.trans k.2.1, k.2.2.trans h.2.2⟩
noncomputable def toldParts : Code × Code := (rangePartsT ((Tryz.f28.body.bind firstRangeT).getD .skip)).getD (.skip, .skip)
set_option maxHeartbeats 8000000 in
theorem told_new (n : Nat) (_hn : 3 <= n) (s : List UInt8) (w : World) (most : Int) (n1 c lr : Nat) (hc : n1 <= c) (r : List TokL × Option (Nat × Int)) (pre : List TokL) (t : TokL) (hrest : ∃ rest, r.1 = (pre ++ [t]) ++ rest) (v : Value) (W : World) (hcW : c < W.heap.size) (PA : ToAt w most n1 c pre v 0 0 pre.length W) (hlm : (pre.length : Int) < most) (_hmx : most <= 9223372036854775807) (hlen : pre.length < 8388608) (g5 : Nat) (hg5 : n1 <= g5) (_h55 : g5 ≠ c) (HT5 : RowAt W g5 (tokC t)) (gs : Nat) :
  toldParts.2.wpIn (Fence.wide.inRound lr) (n - 1 - 1) Tryz.prog (postM n1 (KpT w.heap.size c) (ToJ w most n1 r c) (fun d => ToX w most n1 r d c) (okT pre ++ [(t, .nilIface)]) W) { tmps := #[.string (B s), .int .i64 most, undef, .pointer (some ⟨w.heap.size, 0, none⟩), .slice none 0 0, .pointer (some ⟨w.heap.size + 1, 0, none⟩), .bool false, .pointer (some ⟨w.heap.size + 1 + 1, 0, none⟩), .pointer (some ⟨w.heap.size + 1 + 1 + 1, 0, none⟩), .pointer (some ⟨w.heap.size + 1 + 1 + 1 + 1, 0, none⟩), .pointer (some ⟨w.heap.size + 1 + 1 + 1 + 1 + 1, 0, none⟩), .func (.func 60) #[] #[.pointer (some ⟨gs, 0, none⟩)], .pointer (some ⟨g5, 0, none⟩), .nilIface, .agg #[.int .i64 0, .int .i64 0], .string (B s), .func (.func 60) #[] #[.pointer (some ⟨gs, 0, none⟩)], .func (.func 60) #[] #[.pointer (some ⟨gs, 0, none⟩)], .bool false, undef, .func (.func 60) #[] #[.pointer (some ⟨gs, 0, none⟩)], tv t, .nilIface, undef, undef, undef, undef, undef, undef, undef, undef, undef, undef, undef, undef, undef, undef, undef, undef, undef, undef, undef, undef, undef, undef, undef, undef, undef, undef, undef, undef], defers := [] } W := by
 obtain ⟨⟨a0, a1, a2, a3, a4, a5⟩, p0, p1, p2, p3, p4, p5⟩ := row6 HT5
 have hlt := RowAt.inside HT5
 obtain ⟨i0, hi, hz0, hz1, hz2⟩ := info_parts infoT
 obtain ⟨va, vc, rfl, _, _⟩ := PA.ow.view
 have hnw := PA.nw
 have hltW := PA.lt
 have m0 := PA.bm.cell
 obtain ⟨f0, f1, e0, e1⟩ := two_of PA.bf
 have l0 := PA.bl.cell
 have l1 := PA.bl.frozen
 have o0 := PA.bo.cell
 have o1 := PA.bo.frozen
 have n0 := PA.bn.cell
 have n2 := PA.bn.frozen
 have WN : IntKind.i64.wrap ((pre.length : Int) + 1) = (pre.length : Int) + 1 := IntWalk.i64_in _ (by omega)
 have P := hid PA
 clear PA HT5
 have K1 := P.out.setm hcW
 have K1h := hid K1
 clear K1
 have WN2 : (pre.length : Int) + 1 <= most := by omega
 have CX : Hid (okT pre ++ [(t, Value.nilIface)] = okT (pre ++ [t])) := hid (okT_snoc pre t).symm
 have hw1 : (W.setCell ⟨w.heap.size + 1 + 1 + 1 + 1, 0, none⟩ (.bool false)).heap.size = W.heap.size := by simp
 have HAR : Hid (∀ k, k < w.heap.size + 6 -> k < W.heap.size) := hid (fun k hk => by omega)
 obtain ⟨bq, hbq⟩ : ∃ bq, decide (most <= (pre.length : Int) + 1) = bq := ⟨_, rfl⟩
 conv => arg 4; whnf
 cases bq <;>
 gi_wp2_with (gi_at_builtin; go_loud (refine wpListIn_append_own _ rfl _ _ 44 rfl (c + 1) 50 i0 _ 6 72 Tryz.underlying44 hi hz0 hz1 hz2 rfl (by decide) _ _ _ rfl (World.ownsRow.alloc K1h.out.2.ow _) ⟨W.heap.size, 0, none⟩ 1 1 (tokC t) rfl rfl (by have h := cell_row (W.setCell ⟨w.heap.size + 1 + 1 + 1 + 1, 0, none⟩ (.bool false)) (tokC t) 50; rw [hw1] at h; exact h) (oneCell_tok t) (by unfold maxLen; omega) (by omega) (by simp; omega) ?_; intro v' w6 hown6 hgrow6 _; obtain ⟨g', cap', rfl⟩ := ownsRow_succ hown6; have x6 := (K1h.out.2.bl.alloc (.cells (tokC t).toArray 50)).kept hgrow6 (K1h.out.2.bl.not_row (by decide) K1h.out.2.ow); have c6 := x6.cell; have q6 := x6.frozen; have y6 := (K1h.out.2.bn.alloc (.cells (tokC t).toArray 50)).kept hgrow6 (K1h.out.2.bn.not_row (by decide) K1h.out.2.ow); have cn6 := y6.cell; have fn6 := y6.frozen; have z6 := (K1h.out.2.bm.alloc (.cells (tokC t).toArray 50)).kept hgrow6 (K1h.out.2.bm.not_row (by decide) K1h.out.2.ow); have cm6 := z6.cell; have K6 := hid (K1h.out.2.grow (t := t) (by rw [hw1]; exact hcW) hown6 hgrow6); clear hown6 hgrow6 x6 y6 z6))
 ·have K7 := K6.out.2.setn (by have := K6.out.1.2.1.size; omega) ((pre.length : Int) + 1)
  have KT := kp_trans (kp_trans K1h.out.1 K6.out.1) K7.1
  have hnb : ¬ most <= (pre.length : Int) + 1 := of_decide_eq_false hbq
  refine ⟨KT.1, KT.2, ?_⟩
  rw [CX.out]
  refine ⟨pre ++ [t], .slice (some ⟨g', 0, none⟩) (pre.length + 1) cap', 0, 0, ?_, ?_, .inl ⟨rfl, rfl, rfl, hrest⟩⟩
  ·have : ((okT (pre ++ [t])).length : Int) = (pre.length : Int) + 1 := by simp [okT]
   rw [this]; exact K7.2
  ·simp only [okT, List.length_map, List.length_append, List.length_singleton]; omega
 ·have K7 := K6.out.2.setn (by have := K6.out.1.2.1.size; omega) ((pre.length : Int) + 1)
  have KT := kp_trans (kp_trans K1h.out.1 K6.out.1) K7.1
  have hnb : most <= (pre.length : Int) + 1 := of_decide_eq_true hbq
  refine ⟨KT.1, KT.2, rfl, ?_⟩
  rw [CX.out]
  refine ⟨pre ++ [t], .slice (some ⟨g', 0, none⟩) (pre.length + 1) cap', 0, 0, ?_, ?_, .inl ⟨rfl, rfl, rfl, hrest⟩⟩
  ·have : ((okT (pre ++ [t])).length : Int) = (pre.length : Int) + 1 := by simp [okT]
   rw [this]; exact K7.2
  ·simp only [okT, List.length_map, List.length_append, List.length_singleton]; omega
theorem ToAt.setf {w : World} {most : Int} {n1 c : Nat} {ts : List TokL} {v : Value} {P N m : Int} {W : World} (h : ToAt w most n1 c ts v P N m W) (hcW : c < W.heap.size) (p k : Int) : (KeepsFrom n1 W ((W.setCell ⟨w.heap.size + 1 + 1 + 1, 0, none⟩ (.int .i64 p)).setCell ⟨w.heap.size + 1 + 1 + 1, 1, none⟩ (.int .i64 k)) /\ KpT w.heap.size c W ((W.setCell ⟨w.heap.size + 1 + 1 + 1, 0, none⟩ (.int .i64 p)).setCell ⟨w.heap.size + 1 + 1 + 1, 1, none⟩ (.int .i64 k))) /\ ToAt w most n1 c ts v p k m ((W.setCell ⟨w.heap.size + 1 + 1 + 1, 0, none⟩ (.int .i64 p)).setCell ⟨w.heap.size + 1 + 1 + 1, 1, none⟩ (.int .i64 k)) := by
 have hw := h.nw
 have hc := h.nc
 have hl := h.lt
 have hg := grownR_trans (grownBy_setCell1 W (w.heap.size + 1 + 1 + 1) 0 (.int .i64 p)) (grownBy_setCell1 _ (w.heap.size + 1 + 1 + 1) 1 (.int .i64 k))
 have hne : ∀ g, g ≠ w.heap.size + 1 + 1 + 1 -> some g ≠ some (w.heap.size + 1 + 1 + 1) := fun g hg e => hg (Option.some.inj e)
 refine ⟨⟨((KeepsOthers.setCell _ _ _).from _).trans ((KeepsOthers.setCell _ _ _).from _), ((Below.refl _ W).setCell (p := ⟨w.heap.size + 1 + 1 + 1, 0, none⟩) (by show w.heap.size <= w.heap.size + 1 + 1 + 1; omega) _).setCell (p := ⟨w.heap.size + 1 + 1 + 1, 1, none⟩) (by show w.heap.size <= w.heap.size + 1 + 1 + 1; omega) _, hg.block c hcW (hne _ (by omega))⟩, h.bm.kept hg (hne _ (by omega)), RowAt.grown h.b5 hg (hne _ (by omega)) (by omega), h.bl.kept hg (hne _ (by omega)), tok_grown h.ow hg (fun k hk e => by have := (tok_base h.ow k hk).1; have := Option.some.inj e; omega), two_row h.bf p k, h.bo.kept hg (hne _ (by omega)), h.bn.kept hg (hne _ (by omega)), by simpa using hl, hc, hw, (h.bw.setCell (p := ⟨w.heap.size + 1 + 1 + 1, 0, none⟩) (by show w.heap.size <= w.heap.size + 1 + 1 + 1; omega) _).setCell (p := ⟨w.heap.size + 1 + 1 + 1, 1, none⟩) (by show w.heap.size <= w.heap.size + 1 + 1 + 1; omega) _⟩
set_option maxHeartbeats 8000000 in
theorem told_bad (n : Nat) (hn : 3 <= n) (s : List UInt8) (w : World) (most : Int) (n1 c lr : Nat) (hc : n1 <= c) (r : List TokL × Option (Nat × Int)) (v : Value) (W : World) (hcW : c < W.heap.size) (PA : ToAt w most n1 c r.1 v 0 0 r.1.length W) (hlm : (r.1.length : Int) < most) (hmx : most <= 9223372036854775807) (hE0 : ErrType w) (q : Nat × Int) (hr : r.2 = some q) (eb : Nat) (HE : ErrIs W (.iface 91 (.pointer (some ⟨eb, 0, none⟩))) (.inr q)) (g5 : Nat) (hg5 : n1 <= g5) (HT5 : RowAt W g5 TokZ) (gs : Nat) :
  toldParts.2.wpIn (Fence.wide.inRound lr) (n - 1 - 1) Tryz.prog (postM n1 (KpT w.heap.size c) (ToJ w most n1 r c) (fun d => ToX w most n1 r d c) (okT r.1 ++ [(noTok, .iface 91 (.pointer (some ⟨eb, 0, none⟩)))]) W) { tmps := #[.string (B s), .int .i64 most, undef, .pointer (some ⟨w.heap.size, 0, none⟩), .slice none 0 0, .pointer (some ⟨w.heap.size + 1, 0, none⟩), .bool false, .pointer (some ⟨w.heap.size + 1 + 1, 0, none⟩), .pointer (some ⟨w.heap.size + 1 + 1 + 1, 0, none⟩), .pointer (some ⟨w.heap.size + 1 + 1 + 1 + 1, 0, none⟩), .pointer (some ⟨w.heap.size + 1 + 1 + 1 + 1 + 1, 0, none⟩), .func (.func 60) #[] #[.pointer (some ⟨gs, 0, none⟩)], .pointer (some ⟨g5, 0, none⟩), .iface 91 (.pointer (some ⟨eb, 0, none⟩)), .agg #[.int .i64 0, .int .i64 0], .string (B s), .func (.func 60) #[] #[.pointer (some ⟨gs, 0, none⟩)], .func (.func 60) #[] #[.pointer (some ⟨gs, 0, none⟩)], .bool false, undef, .func (.func 60) #[] #[.pointer (some ⟨gs, 0, none⟩)], tv noTok, .iface 91 (.pointer (some ⟨eb, 0, none⟩)), undef, undef, undef, undef, undef, undef, undef, undef, undef, undef, undef, undef, undef, undef, undef, undef, undef, undef, undef, undef, undef, undef, undef, undef, undef, undef, undef, undef], defers := [] } W := by
 have hnw := PA.nw
 have hltW := PA.lt
 obtain ⟨f0, f1, e0, e1⟩ := two_of PA.bf
 have o0 := PA.bo.cell
 have o1 := PA.bo.frozen
 have WN : IntKind.i64.wrap ((r.1.length : Int) + 1) = (r.1.length : Int) + 1 := IntWalk.i64_in _ (by omega)
 have K1 := hid (PA.setm hcW)
 have HE1 := hid (err_box HE PA.bo (.bool false))
 have HET := hid (hE0.below K1.out.2.bw)
 have HT1 := hid (RowAt.other (o := 0) HT5 (show ¬ g5 = w.heap.size + 1 + 1 + 1 + 1 by omega) (.bool false))
 have hlt5 := HT5.inside
 have hw1 : (W.setCell ⟨w.heap.size + 1 + 1 + 1 + 1, 0, none⟩ (.bool false)).heap.size = W.heap.size := by simp
 obtain ⟨p, N⟩ := q
 have FT := hid (fault10_l (.inr (p, N)) _ _ HET.out HE1.out)
 unfold faultV at FT
 clear PA HT5 HE hE0
 obtain ⟨bq, hbq⟩ : ∃ bq, decide (most <= (r.1.length : Int) + 1) = bq := ⟨_, rfl⟩
 conv => arg 4; whnf
 cases bq <;>
 gi_wp2_with (refine ⟨trivial, fun _ => by omega, ?_⟩; gi_at_call 27; go_loud (refine (CallsIn.inRound lr (callsIn_wide.2 FT.out)).mono ?_; rintro ev w5 ⟨rfl, hb5⟩; have HB5 := hid hb5; have P5 := hid (K1.out.2.keep (below_grown hb5 none) (by simp)); obtain ⟨⟨a0, a1, a2, a3, a4, a5⟩, _⟩ := row6 (show RowAt w5 g5 [.int .i64 0, .string ⟨#[]⟩, .string ⟨#[]⟩, .string ⟨#[]⟩, .int .i64 0, .int .i64 0] from RowAt.below HT1.out hb5 (by rw [hw1]; exact hlt5)); have m0 := P5.out.bm.cell; obtain ⟨f2, f3, e2, e3⟩ := two_of P5.out.bf; have o2 := P5.out.bo.cell; have o3 := P5.out.bo.frozen; have n0 := P5.out.bn.cell; have n2 := P5.out.bn.frozen; clear hb5 f0 f1 e0 e1 o0 o1))
 all_goals
  have hc5 : c < w5.heap.size := by have := HB5.out.size; omega
  have K5 : KeepsFrom n1 (W.setCell ⟨w.heap.size + 1 + 1 + 1 + 1, 0, none⟩ (.bool false)) w5 /\ KpT w.heap.size c (W.setCell ⟨w.heap.size + 1 + 1 + 1 + 1, 0, none⟩ (.bool false)) w5 := ⟨(keeps_belowT HB5.out).from _, HB5.out.mono (by rw [hw1]; omega), HB5.out.block c (by rw [hw1]; exact hcW)⟩
  have K6 := P5.out.setf hc5 (p : Int) N
  have K7 := K6.2.setm (by have := K6.1.2.1.size; omega)
  have K8 := K7.2.setn (by have := K7.1.2.1.size; have := K6.1.2.1.size; omega) ((r.1.length : Int) + 1)
  have KT := kp_trans (kp_trans (kp_trans (kp_trans K1.out.1 K5) K6.1) K7.1) K8.1
  have hxl : ((okT r.1 ++ [(noTok, Value.iface 91 (.pointer (some ⟨eb, 0, none⟩)))]).length : Int) = (r.1.length : Int) + 1 := by simp [okT]
 ·have hnb : ¬ most <= (r.1.length : Int) + 1 := of_decide_eq_false hbq
  refine ⟨KT.1, KT.2, r.1, v, (p : Int), N, by rw [hxl]; exact K8.2, by rw [hxl]; omega, .inr ⟨_, (p, N), (fun h => by cases h), hr, rfl, rfl, rfl, rfl⟩⟩
 ·have hnb : most <= (r.1.length : Int) + 1 := of_decide_eq_true hbq
  refine ⟨KT.1, KT.2, rfl, r.1, v, (p : Int), N, by rw [hxl]; exact K8.2, by rw [hxl]; omega, .inr ⟨_, (p, N), (fun h => by cases h), hr, rfl, rfl, rfl, rfl⟩⟩
set_option maxHeartbeats 8000000 in
theorem told_l (s : List UInt8) (most : Int) (w : World) (hl : s.length <= 1048576) (hm : 1 <= most) (hm2 : most <= 9223372036854775807) (hT : TabAt w) (hM : MaxAt w) (hE : ErrType w) :
  Calls Tryz.prog 28 #[.string (B s), .int .i64 most] w fun e w' => (∃ v P N, e = .returned (.tuple #[v, .agg #[.int .i64 P, .int .i64 N], .bool false]) /\ TOwn w.heap.size v ((allR s).1.take most.toNat) w' /\ ((most <= ((allR s).1.length : Int) /\ P = 0 /\ N = 0) \/ (((allR s).1.length : Int) < most /\ P = wrongP (allR s).2 /\ N = wrongN (allR s).2))) /\ Below w.heap.size w w' := by
 have hfew := ends_few s
 have HTM := hid (And.intro hT (And.intro hM hE))
 have TSQ := fun (n : Nat) (hn : 1 <= n) (Bn n₀ : Nat) (w : World) hn₀ hB hv => tokens_seq n hn Bn n₀ s w hn₀ hB (by omega) hv
 rw [show toksF (headL s) (lessB s) 0 = allR s from rfl] at TSQ
 generalize allR s = r at hfew TSQ ⊢
 have hnil : ∀ u c, (binOp .eql 100 (.func (.func 60) #[] c) .nilFunc).run Tryz.prog u = .ok (.bool false) u := by intro u c; kernel_rfl
 clear hT hM hE
 refine (callsIn_wide (n := 12)).1 ?_
 refine callsIn_of_wp_marks Tryz.func28 rfl trivial ?_ rfl
 simp only [Tryz.ntmps28, List.size_toArray, List.length_cons, List.length_nil, Nat.reduceAdd, Nat.reduceSub, Array.replicate_succ, Array.replicate_zero, List.push_toArray, List.append_toArray, List.nil_append, List.cons_append]
 gi_wp2_with (refine ⟨trivial, ?_⟩; gi_at_call 39; refine (tokens_fn _ s _).mono ?_; rintro e w2 ⟨rfl, rfl⟩)
 obtain ⟨W0, hW0⟩ : ∃ W0, ((((((w.alloc (.cells #[.int .i64 most] 3)).alloc (.cells #[.int .i64 0, .int .i64 0] 64)).alloc (.cells #[.slice none 0 0] 44)).alloc (.cells #[.int .i64 0, .int .i64 0] 64)).alloc (.cells #[.bool false] 4)).alloc (.cells #[.int .i64 0] 3)).alloc (.cells #[.string (B s)] 9) = W0 := ⟨_, rfl⟩
 obtain ⟨XM, X5, XL, XF, XO, XN, XS, hsz, BW⟩ := to_start s most w W0 hW0
 rw [hW0]
 clear hW0
 have hW0 : w.heap.size <= W0.heap.size := BW.size
 clear hnil
 refine wpIn_rangeP (g := .tmp 20) (ps := #[21, 22]) (F := Fence.wide) (n := 12) (encs := encT) (Kp := KpT w.heap.size) (R := Given r) (S := AllGiven r) (Sp := SomeGiven r) (N := r.1.length + 1) (w0 := W0) rfl (by omega) (gf := 60) (lb := #[.pointer (some ⟨w.heap.size + 1 + 1 + 1 + 1 + 1 + 1, 0, none⟩)]) rfl trivial (enters_of Tryz.func60 (by kernel_rfl) rfl)
  (TSQ (12 - 1) (by omega) (w.heap.size + 1 + 1 + 1 + 1 + 1 + 1) w.heap.size W0 BW.size XS (fun W' h => ⟨HTM.out.1.below (BW.trans h), HTM.out.2.1.below (BW.trans h)⟩)) (Below.refl _ _) (fun h k => ⟨h.1.trans k.1, k.2.trans h.2⟩) ?kp (fun _ => rfl)
  (fun c xs W => ToJ w most W0.heap.size r c xs W) (fun d c xs W => ToX w most W0.heap.size r d c xs W) (toJ_priv w most _ r) ?ownx ?start ?round ?done ?stop
 case kp =>
  intro c W r1 r2 hc hl
  have hlt := (Array.getElem?_eq_some_iff.1 hl).1
  exact ⟨(Below.refl _ _).grown (grownBy_putObj' W _ _) (by omega) (fun k e => by have := Option.some.inj e; omega), World.putObj_heap_other (by omega)⟩
 case ownx =>
  rintro d b xs X Y row ⟨hk, ts, v, P, N, h, h1, h2⟩ hg hr
  exact ⟨hk, ts, v, P, N, h.keep hg (fun r e => ⟨(hr r e).1, .inr (hr r e).2⟩), h1, h2⟩
 case start =>
  intro c V hb h1 h2
  exact ⟨[], .slice none 0 0, 0, 0, ⟨boxed_belowT XM hb (by omega), RowAt.below X5 hb (by omega), boxed_belowT XL hb (by omega), TOwn.nil _ _, RowAt.below XF hb (by omega), boxed_belowT XO hb (by omega), boxed_belowT XN hb (by omega), hb.size, by omega, by omega, BW.trans (hb.mono (by omega))⟩, by simp only [List.length_nil]; omega, .inl ⟨rfl, rfl, rfl, r.1, rfl⟩⟩
 case round =>
  rintro c pre ⟨t, ev⟩ W hc hcW ⟨ts, v, P, N, PA, hlm, hwt⟩ hR hsz2 ⟨r0, hrec⟩ hlen
  have hpre : pre = okT ts /\ P = 0 /\ N = 0 := by
   rcases hwt with h | ⟨ev', q, h0, h1, h2, _⟩
   ·exact ⟨h.1, h.2.1, h.2.2.1⟩
   ·exfalso
    rcases hR with ⟨pre', rest, g1, g2⟩ | ⟨ev2, q2, g1, g2, _⟩
    ·have hm : (noTok, ev') ∈ okT pre' := by rw [<- g2, h2]; simp
     simp only [okT, List.mem_map, Prod.mk.injEq] at hm
     obtain ⟨x, _, _, h2⟩ := hm
     exact h0 h2.symm
    ·have := congrArg List.length g2
     rw [h2] at this
     simp at this
  obtain ⟨rfl, rfl, rfl⟩ := hpre
  have hxl : (okT ts).length = ts.length := by simp [okT]
  rw [hxl] at PA hlm
  have PP := hid PA
  have HRR := hid hR
  have HREC := hid hrec
  clear PA hR hrec hwt
  have hBT : Below W.heap.size W (W.alloc (.cells #[.int .i64 t.kind, .string (B t.text), .string (B t.loc), .string (B t.typ), .int .i64 t.at_, .int .i64 t.fin] 50)) := (Below.refl _ _).alloc (Nat.le_refl _) _
  have hGT : W.grownBy (W.alloc (.cells #[.int .i64 t.kind, .string (B t.text), .string (B t.loc), .string (B t.typ), .int .i64 t.at_, .int .i64 t.fin] 50)) none := World.grownBy_alloc W _ none
  have hV : W.heap.size + 1 <= (W.alloc (.cells #[.int .i64 t.kind, .string (B t.text), .string (B t.loc), .string (B t.typ), .int .i64 t.at_, .int .i64 t.fin] 50)).heap.size := by simp
  have hRT : RowAt (W.alloc (.cells #[.int .i64 t.kind, .string (B t.text), .string (B t.loc), .string (B t.typ), .int .i64 t.at_, .int .i64 t.fin] 50)) W.heap.size (tokC t) := rowAt_of_heap (heap_alloc_new W _)
  gi_wp2
  generalize W.alloc (.cells #[.int .i64 t.kind, .string (B t.text), .string (B t.loc), .string (B t.typ), .int .i64 t.at_, .int .i64 t.fin] 50) = V at hV hRT hGT hBT ⊢
  have hrec2 : V.heap[W0.heap.size + 1]? = some (.loop r0) := (hBT.block _ (by omega)).trans HREC.out
  refine ⟨⟨(keeps_belowT hBT).from _, ⟨hBT.mono (by omega), hBT.block c hcW⟩⟩, fun r' => ?_⟩
  have PV := ((PP.out.keep hGT (by simp)).keep (grownBy_putObj' V (W0.heap.size + 1) (.loop r')) (fun r2 e => by
   have := Option.some.inj e
   subst this
   exact ⟨by omega, .inr ⟨_, hrec2, rfl⟩⟩))
  have hsV : (V.putObj (W0.heap.size + 1) (.loop r')).heap.size = V.heap.size := by simp
  have hRP := rowAt_block (w' := V.putObj (W0.heap.size + 1) (.loop r')) hRT (World.putObj_heap_other (by omega))
  rcases HRR.out with ⟨pre', rest, h1, h2⟩ | ⟨ev', q, h1, h2, h3⟩
  ·have hev : ev = .nilIface := okT_last h2
   subst hev
   have hts : ts.length <= r.1.length := by
    have := congrArg List.length h2
    have h4 := congrArg List.length h1
    simp [okT] at this h4
    omega
   have h5 : pre' = ts ++ [t] := (okT_inj ((okT_snoc ts t).trans h2)).symm
   exact told_new 12 (by omega) s w most _ c (W0.heap.size + 1) (by omega) r ts t ⟨rest, by rw [h1, h5]⟩ v _ (by omega) PV hlm (by omega) (by omega) W.heap.size (by omega) (by omega) hRP _
  ·have h4 := List.append_inj h2 (by have := congrArg List.length h2; simp at this; simp [okT] at this ⊢; omega)
   have h5 : t = noTok /\ ev = ev' := by simpa using h4.2
   obtain ⟨rfl, rfl⟩ := h5
   have h6 : ts = r.1 := okT_inj h4.1
   subst h6
   have hE := err_keepT (err_keepT h3 hGT (by simp)) (grownBy_putObj' V (W0.heap.size + 1) (.loop r')) (fun r2 e => by
    have := Option.some.inj e
    subst this
    exact ⟨_, hrec2, rfl⟩)
   obtain ⟨p, N⟩ := q
   obtain ⟨eb, rfl, e1, e2⟩ := hE
   exact told_bad 12 (by omega) s w most _ c (W0.heap.size + 1) (by omega) r v _ (by omega) PV hlm (by omega) HTM.out.2.2 (p, N) h1 eb ⟨eb, rfl, e1, e2⟩ W.heap.size (by omega) hRP _
 case done =>
  rintro c xs W hS ⟨ts, v, P, N, PA, hlm, hwt⟩ hK
  have HF0 : ts = r.1 /\ (r.1.length : Int) < most /\ P = wrongP r.2 /\ N = wrongN r.2 := by
   rcases hwt with ⟨h1, rfl, rfl, _⟩ | ⟨ev, q, h0, h1, h2, rfl, rfl, rfl⟩
   ·rcases hS with ⟨g1, g2⟩ | ⟨ev, q, g0, g1, g2⟩
    ·have := okT_inj (h1.symm.trans g2)
     subst this
     rw [h1] at hlm
     exact ⟨rfl, by simpa [okT] using hlm, by rw [g1]; rfl, by rw [g1]; rfl⟩
    ·exact absurd (okT_last (g2.symm.trans h1)) g0
   ·rw [h2] at hlm
    refine ⟨rfl, ?_, by rw [h1]; rfl, by rw [h1]; rfl⟩
    simp [okT] at hlm
    omega
  have HF : ts = r.1.take most.toNat /\ ((most <= (r.1.length : Int) /\ P = 0 /\ N = 0) \/ ((r.1.length : Int) < most /\ P = wrongP r.2 /\ N = wrongN r.2)) := ⟨by rw [HF0.1]; exact (List.take_of_length_le (by have := HF0.2.1; omega)).symm, .inr HF0.2⟩
  clear HF0
  have HK := hid hK
  clear hS hwt hK
  have P1 := hid PA
  obtain ⟨f0, f1, e0, e1⟩ := two_of PA.bf
  obtain ⟨b0, b1, z0, z1⟩ := two_of PA.b5
  have l0 := PA.bl.cell
  have o0 := PA.bo.cell
  have hnw := PA.nw
  have hltW := PA.lt
  have HFH := hid HF
  clear PA HF hlm
  gi_wp2_with fail
  gi_region
  gi_wp2_with fail
  have g1 := grownR_trans (grownBy_setCell1 W (w.heap.size + 1) 0 (.int .i64 P)) (grownBy_setCell1 _ (w.heap.size + 1) 1 (.int .i64 N))
  have hK5 : (((W.setCell ⟨w.heap.size + 1, 0, none⟩ (.int .i64 P)).setCell ⟨w.heap.size + 1, 1, none⟩ (.int .i64 N)).drew).heap[W0.heap.size]? = some (.deferred (some [])) := (g1.block _ (Array.getElem?_eq_some_iff.1 HK.out).1 (fun e => by have := Option.some.inj e; omega)).trans HK.out
  have g2 : W.grownBy (((W.setCell ⟨w.heap.size + 1, 0, none⟩ (.int .i64 P)).setCell ⟨w.heap.size + 1, 1, none⟩ (.int .i64 N)).drew) (some (w.heap.size + 1)) := grown_drew1 g1
  have rZ := row_drew (two_row P1.out.b5 P N)
  generalize ((W.setCell ⟨w.heap.size + 1, 0, none⟩ (.int .i64 P)).setCell ⟨w.heap.size + 1, 1, none⟩ (.int .i64 N)).drew = Z at hK5 g2 rZ ⊢
  have g3 := grownBy_putObj' Z W0.heap.size (.deferred none)
  have r3 := RowAt.grown rZ g3 (by simp; omega) rZ.inside
  obtain ⟨c0, c1, _, _⟩ := two_of r3
  refine ⟨by simp, .inl ⟨_, _, rfl, run_takeDeferred hK5, ?_⟩⟩
  refine ⟨.tuple #[v, .agg #[.int .i64 P, .int .i64 N], .bool false], by simp [results, Tryz.results28, go_sem, c0, c1], ⟨v, P, N, rfl, ?_, HFH.out.2⟩, ?_⟩
  ·have h1 := tok_grown P1.out.ow g2 (fun k hk e => by have h1 := (tok_base P1.out.ow k hk).1; have h2 := Option.some.inj e; have := P1.out.nc; omega)
   have h2 := tok_grown h1 g3 (fun k hk e => by have h1 := (tok_base h1 k hk).1; have h2 := Option.some.inj e; have := P1.out.nc; omega)
   rw [<- HFH.out.1]
   exact tok_lower h2 (by have := P1.out.nc; omega)
  ·exact (P1.out.bw.grown g2 P1.out.bw.size (fun k e => by have := Option.some.inj e; omega)).grown g3 (Nat.le_trans P1.out.bw.size g2.size) (fun k e => by have := Option.some.inj e; omega)
 case stop =>
  rintro k c xs W hS ⟨rfl, ts, v, P, N, PA, hlm, hwt⟩ hK
  have HF : ts = r.1.take most.toNat /\ ((most <= (r.1.length : Int) /\ P = 0 /\ N = 0) \/ ((r.1.length : Int) < most /\ P = wrongP r.2 /\ N = wrongN r.2)) := by
   rcases hwt with ⟨h1, rfl, rfl, rest, hrest⟩ | ⟨ev, q, h0, h1, h2, rfl, rfl, rfl⟩
   ·rw [h1] at hlm
    simp only [okT, List.length_map] at hlm
    exact ⟨by rw [hrest, <- hlm]; simp, .inl ⟨by rw [hrest, <- hlm]; simp; omega, rfl, rfl⟩⟩
   ·rw [h2] at hlm
    simp [okT] at hlm
    refine ⟨(List.take_of_length_le (by omega)).symm, .inr ⟨by omega, by rw [h1]; rfl, by rw [h1]; rfl⟩⟩
  have HK := hid hK
  clear hS hwt hK
  have P1 := hid PA
  obtain ⟨f0, f1, e0, e1⟩ := two_of PA.bf
  obtain ⟨b0, b1, z0, z1⟩ := two_of PA.b5
  have l0 := PA.bl.cell
  have o0 := PA.bo.cell
  have hnw := PA.nw
  have hltW := PA.lt
  have HFH := hid HF
  clear PA HF hlm
  gi_wp2_with fail
  gi_region
  gi_wp2_with fail
  have g1 := grownR_trans (grownBy_setCell1 W (w.heap.size + 1) 0 (.int .i64 P)) (grownBy_setCell1 _ (w.heap.size + 1) 1 (.int .i64 N))
  have hK5 : (((W.setCell ⟨w.heap.size + 1, 0, none⟩ (.int .i64 P)).setCell ⟨w.heap.size + 1, 1, none⟩ (.int .i64 N)).drew).heap[W0.heap.size]? = some (.deferred (some [])) := (g1.block _ (Array.getElem?_eq_some_iff.1 HK.out).1 (fun e => by have := Option.some.inj e; omega)).trans HK.out
  have g2 : W.grownBy (((W.setCell ⟨w.heap.size + 1, 0, none⟩ (.int .i64 P)).setCell ⟨w.heap.size + 1, 1, none⟩ (.int .i64 N)).drew) (some (w.heap.size + 1)) := grown_drew1 g1
  have rZ := row_drew (two_row P1.out.b5 P N)
  generalize ((W.setCell ⟨w.heap.size + 1, 0, none⟩ (.int .i64 P)).setCell ⟨w.heap.size + 1, 1, none⟩ (.int .i64 N)).drew = Z at hK5 g2 rZ ⊢
  have g3 := grownBy_putObj' Z W0.heap.size (.deferred none)
  have r3 := RowAt.grown rZ g3 (by simp; omega) rZ.inside
  obtain ⟨c0, c1, _, _⟩ := two_of r3
  refine ⟨by simp, .inl ⟨_, _, rfl, run_takeDeferred hK5, ?_⟩⟩
  refine ⟨.tuple #[v, .agg #[.int .i64 P, .int .i64 N], .bool false], by simp [results, Tryz.results28, go_sem, c0, c1], ⟨v, P, N, rfl, ?_, HFH.out.2⟩, ?_⟩
  ·have h1 := tok_grown P1.out.ow g2 (fun k hk e => by have h1 := (tok_base P1.out.ow k hk).1; have h2 := Option.some.inj e; have := P1.out.nc; omega)
   have h2 := tok_grown h1 g3 (fun k hk e => by have h1 := (tok_base h1 k hk).1; have h2 := Option.some.inj e; have := P1.out.nc; omega)
   rw [<- HFH.out.1]
   exact tok_lower h2 (by have := P1.out.nc; omega)
  ·exact (P1.out.bw.grown g2 P1.out.bw.size (fun k e => by have := Option.some.inj e; omega)).grown g3 (Nat.le_trans P1.out.bw.size g2.size) (fun k e => by have := Option.some.inj e; omega)
end Go.Proofs.YtdhmpakhdhdebaaGreatDoor
namespace Go.Proofs.YtdhmpakhdhdebaaGreatDoor
open Go.Lib (hid)
open Go.RowKit
set_option maxRecDepth 100000
theorem TView.take {w : World} {l : List TokL} {a : Option Addr} {cap : Nat} (h : TView w (.slice a l.length cap) l) {n : Nat} (hn : n <= l.length) : TView w (.slice a n cap) (l.take n) := by
 obtain ⟨a', cap', e, h1, h2⟩ := h
 cases e
 refine ⟨a, cap, by rw [List.length_take, Nat.min_eq_left hn], by rw [List.length_take]; omega, ?_⟩
 have : toksC (l.take n) = (toksC l).take (n * 6) := by
  have e := congrArg toksC (List.take_append_drop n l).symm
  rw [show toksC (l.take n ++ l.drop n) = toksC (l.take n) ++ toksC (l.drop n) from List.flatMap_append] at e
  have hlen : (toksC (l.take n)).length = n * 6 := by rw [toksC_len, List.length_take, Nat.min_eq_left hn]
  rw [e, List.take_append_of_le_length (by omega)]
  exact (List.take_of_length_le (by omega)).symm
 rw [this]
 exact h2.take _
set_option maxHeartbeats 6400000 in
theorem lexWalks_walk (s : List UInt8) (most : Int) (w : World) (hl : s.length <= 1048576) (hmb : -9223372036854775808 <= most /\ most <= 9223372036854775807) (hT : TabAt w) (hM : MaxAt w) (hE : ErrType w) :
  Calls Tryz.prog 8 #[.string (B s), .int .i64 most] w fun e w' => e = .returned (.bool true) /\ Below w.heap.size w w' := by
 have RT := hid (fun (u : World) => refTokens10_l s u hl)
 have HTD := hid (fun (n : Int) (h1 : 1 <= n) (h2 : n <= 9223372036854775807) (u : World) (hu : Below w.heap.size w u) => told_l s n u hl h1 h2 (hT.below hu) (hM.below hu) (hE.below hu))
 clear hT hM hE
 go_enter Tryz.func8, Tryz.ntmps8
 go_upto_region 2 with fail
 have hn1 : 1 <= max 1 most := by omega
 have hn2 : max 1 most <= 9223372036854775807 := by omega
 generalize max 1 most = n at hn1 hn2 ⊢
 have HT := hid (HTD.out n hn1 hn2)
 have hfew := ends_few s
 obtain ⟨r, hr⟩ : ∃ r, allR s = r := ⟨_, rfl⟩
 rw [hr] at HT hfew
 have RT := hid (show ∀ (u : World), Calls Tryz.prog 29 #[.string (B s)] u fun e w' => (∃ v, e = .returned (.tuple #[v, .agg #[.int .i64 (wrongP r.2), .int .i64 (wrongN r.2)]]) /\ TOwn u.heap.size v r.1 w') /\ Below u.heap.size u w' from hr ▸ RT.out)
 clear HTD hr
 go_upto_region 3 with (go_at_call 28; (with_reducible refine (HT.out _ (Below.refl _ _)).mono ?_); rintro e w1 ⟨⟨v1, P, N, rfl, ho1, hc1⟩, hb1⟩; have HO1 := hid ho1; have HC1 := hid hc1; have HB1 := hid hb1; clear ho1 hc1 hb1)
 obtain ⟨V1, hV1⟩ : ∃ V1, w1.alloc (.cells #[.int .i64 P, .int .i64 N] 64) = V1 := ⟨_, rfl⟩
 rw [hV1]
 have hb : Below w1.heap.size w1 V1 := by rw [<- hV1]; exact (Below.refl _ _).alloc (Nat.le_refl _) _
 have F1 : Hid (RowAt V1 w1.heap.size [.int .i64 P, .int .i64 N]) := hid (by rw [<- hV1]; exact rowAt_of_heap (heap_alloc_new w1 _))
 have O1 := hid (tok_below HO1.out hb)
 have B1 := hid (HB1.out.trans (hb.mono HB1.out.size))
 have k1 : ∀ k, v1.ownBlock = some k -> k < w1.heap.size := fun k hk => (tok_base HO1.out k hk).2
 have K1 := hid k1
 have s1 := HB1.out.size
 clear hV1 hb HO1 HB1 k1
 generalize w1.heap.size = g1 at *
 go_upto_region 4 with (go_at_call 28; (with_reducible refine (HT.out _ B1.out).mono ?_); rintro e w2 ⟨⟨v2, P2, N2, rfl, ho2, hc2⟩, hb2⟩; have HO2 := hid ho2; have HC2 := hid hc2; have HB2 := hid hb2; clear ho2 hc2 hb2)
 obtain ⟨V2, hV2⟩ : ∃ V2, w2.alloc (.cells #[.int .i64 P2, .int .i64 N2] 64) = V2 := ⟨_, rfl⟩
 rw [hV2]
 have hb : Below w2.heap.size w2 V2 := by rw [<- hV2]; exact (Below.refl _ _).alloc (Nat.le_refl _) _
 have F2 : Hid (RowAt V2 w2.heap.size [.int .i64 P2, .int .i64 N2]) := hid (by rw [<- hV2]; exact rowAt_of_heap (heap_alloc_new w2 _))
 have O2 := hid (tok_below HO2.out hb)
 have hb12 : Below V1.heap.size V1 V2 := HB2.out.trans (hb.mono HB2.out.size)
 have O1b := hid (tok_below O1.out hb12)
 have F1b := hid (RowAt.below F1.out hb12 F1.out.inside)
 have B2 := hid (B1.out.trans (hb12.mono B1.out.size))
 have k2 : ∀ k, v2.ownBlock = some k -> k < w2.heap.size := fun k hk => (tok_base HO2.out k hk).2
 have K2 := hid k2
 have s2 : g1 < w2.heap.size := Nat.lt_of_lt_of_le F1.out.inside HB2.out.size
 clear hV2 hb HO2 HB2 k2 hb12 O1 F1 B1
 generalize w2.heap.size = g2 at *
 go_upto_region 5 with (go_at_call 29; (with_reducible refine (RT.out _).mono ?_); rintro e w3 ⟨⟨v3, rfl, ho3⟩, hb3⟩; have HO3 := hid ho3; have HB3 := hid hb3; clear ho3 hb3)
 obtain ⟨V3, hV3⟩ : ∃ V3, w3.alloc (.cells #[.int .i64 (wrongP r.2), .int .i64 (wrongN r.2)] 64) = V3 := ⟨_, rfl⟩
 rw [hV3]
 have hb : Below w3.heap.size w3 V3 := by rw [<- hV3]; exact (Below.refl _ _).alloc (Nat.le_refl _) _
 have F3 : Hid (RowAt V3 w3.heap.size [.int .i64 (wrongP r.2), .int .i64 (wrongN r.2)]) := hid (by rw [<- hV3]; exact rowAt_of_heap (heap_alloc_new w3 _))
 have O3 := hid (tok_below HO3.out hb)
 have hb23 : Below V2.heap.size V2 V3 := HB3.out.trans (hb.mono HB3.out.size)
 have O1c := hid (tok_below O1b.out hb23)
 have O2c := hid (tok_below O2.out hb23)
 have F1c := hid (RowAt.below F1b.out hb23 F1b.out.inside)
 have F2c := hid (RowAt.below F2.out hb23 F2.out.inside)
 have B3 := hid (B2.out.trans (hb23.mono B2.out.size))
 have s3 : g2 < w3.heap.size := Nat.lt_of_lt_of_le F2.out.inside HB3.out.size
 have K3 : Hid (∀ k, v3.ownBlock = some k -> k < w3.heap.size) := hid (fun k hk => (tok_base HO3.out k hk).2)
 clear hV3 hb HO3 HB3 hb23 O1b O2 F1b F2 B2 HT RT
 generalize w3.heap.size = g3 at *
 obtain ⟨va, vc, rfl, hvc, _⟩ := TOwn.view O3.out
 obtain ⟨d0, d1, e0, e1⟩ := two_of F3.out
 have hPP : P2 = P /\ N2 = N := by
  rcases HC1.out with ⟨h1, rfl, rfl⟩ | ⟨h1, rfl, rfl⟩ <;> rcases HC2.out with ⟨h2, rfl, rfl⟩ | ⟨h2, rfl, rfl⟩
  ·exact ⟨rfl, rfl⟩
  ·omega
  ·omega
  ·exact ⟨rfl, rfl⟩
 obtain ⟨rfl, rfl⟩ := hPP
 clear HC2
 go_upto_if 38 with fail
 go_cut [12] from 35 to 42 (fun x12 wx => Hid (TView wx x12 (r.1.take n.toNat)) /\ Hid (RowAt wx g3 [.int .i64 P2, .int .i64 N2]) /\ Hid (V3.grownBy wx (some g3)))
 case first =>
  by_cases hc : n <= (r.1.length : Int)
  ·have c1 : decide (n <= (r.1.length : Int)) = true := decide_eq_true hc
   obtain ⟨rfl, rfl⟩ : P2 = 0 /\ N2 = 0 := by
    rcases HC1.out with ⟨_, h2, h3⟩ | ⟨h1, _⟩
    ·exact ⟨h2, h3⟩
    ·omega
   obtain ⟨m, rfl⟩ : ∃ m : Nat, n = (m : Int) := ⟨n.toNat, by omega⟩
   have i1 : (m : Int) <= (vc : Int) := by omega
   have i2 : m <= vc := by omega
   have i3 : (0 : Int) <= (m : Int) := by omega
   have hne : ∀ k, (Value.slice va r.1.length vc).ownBlock = some k -> some k ≠ some g3 := fun k hk e => by have := K3.out k hk; have := Option.some.inj e; omega
   have HO := hid (tok_grown O3.out (grownR_trans (grownBy_setCell1 V3 g3 0 (.int .i64 0)) (grownBy_setCell1 _ g3 1 (.int .i64 0))) hne)
   clear hne
   go_wp2_with fail
   go_meet
   exact ⟨hid (TView.take (TOwn.view HO.out) (n := m) (by omega)), hid (two_row F3.out 0 0), hid (grownR_trans (grownBy_setCell1 V3 g3 0 (.int .i64 0)) (grownBy_setCell1 _ g3 1 (.int .i64 0)))⟩
  ·have c1 : decide (n <= (r.1.length : Int)) = false := decide_eq_false hc
   obtain ⟨rfl, rfl⟩ : P2 = wrongP r.2 /\ N2 = wrongN r.2 := by
    rcases HC1.out with ⟨h1, _⟩ | ⟨_, h2, h3⟩
    ·omega
    ·exact ⟨h2, h3⟩
   go_wp2_with fail
   go_meet
   exact ⟨hid (by rw [List.take_of_length_le (by omega)]; exact TOwn.view O3.out), F3, hid (World.grownBy.refl _ _)⟩
 case rest =>
  obtain ⟨HV, HR3, HG⟩ := hcut
  have q1 := hid (TOwn.view (tok_grown O1c.out HG.out (fun k hk e => by have := K1.out k hk; have := Option.some.inj e; omega)))
  have q2 := hid (TOwn.view (tok_grown O2c.out HG.out (fun k hk e => by have := K2.out k hk; have := Option.some.inj e; omega)))
  obtain ⟨d0, d1, _, _⟩ := two_of (RowAt.grown F1c.out HG.out (by simp; omega) F1c.out.inside)
  obtain ⟨d2, d3, _, _⟩ := two_of (RowAt.grown F2c.out HG.out (by simp; omega) F2c.out.inside)
  obtain ⟨d4, d5, _, _⟩ := two_of HR3.out
  have hlt : (r.1.take n.toNat).length <= 4194304 := by rw [List.length_take]; omega
  have BX := hid (B3.out.grown HG.out B3.out.size (fun k e => by have := Option.some.inj e; omega))
  have S1 := hid (fun (u : World) (hu : Below wc.heap.size wc u) => sameTokens_l _ v1 u12 u (q1.out.below hu) (HV.out.below hu) hlt)
  have S2 := hid (fun (u : World) (hu : Below wc.heap.size wc u) => sameTokens_l _ v2 u12 u (q2.out.below hu) (HV.out.below hu) hlt)
  go_wp2_with (first | (go_at_call 21; (with_reducible refine (S1.out _ (Below.refl _ _)).mono ?_); rintro ev w7 ⟨rfl, n7, rfl⟩) | (go_at_call 21; (refine (S2.out _ (below_drewN_h (Below.refl _ _) n7)).mono ?_); rintro ev w8 ⟨rfl, n8, rfl⟩))
  go_ret
  exact ⟨rfl, below_drewN_h BX.out _⟩
end Go.Proofs.YtdhmpakhdhdebaaGreatDoor
