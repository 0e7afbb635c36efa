/-
  Rows of tokens; lexis.Tokens; the rounds of lexis.All. By an AI agent.
-/
import Derived.Test.YtdhmpakhdhdebaaGreatDoorZLexW19
import Derived.Test.YtdhmpakhdhdebaaGreatDoorZApp
import Derived.OwnWalkIn
namespace Go.Proofs.YtdhmpakhdhdebaaGreatDoor
open Go.RowKit Go.Shelf
set_option maxRecDepth 1000000
attribute [local go_sem] Oper.semAt_some
def tokC (t : TokL) : List Value := [.int .i64 t.kind, .string (B t.text), .string (B t.loc), .string (B t.typ), .int .i64 t.at_, .int .i64 t.fin]
def toksC (l : List TokL) : List Value := l.flatMap tokC
theorem toksC_len (l : List TokL) : (toksC l).length = l.length * 6 := by
 unfold toksC
 induction l with
 | nil => rfl
 | cons x l ih => rw [List.flatMap_cons, List.length_append, ih]; simp [tokC]; omega
theorem toksC_snoc (l : List TokL) (t : TokL) : toksC (l ++ [t]) = toksC l ++ tokC t := by simp [toksC]
theorem infoT : (Tryz.prog.info? 50).map (fun i => (i.zero, i.size, i.bytes)) = some (some (.agg (tokC noTok).toArray), 6, 72) := by kernel_rfl
def tv (t : TokL) : Value := .agg (tokC t).toArray
def TOwn (base : Nat) (v : Value) (l : List TokL) (w : World) : Prop := w.ownsRow base 50 6 v l.length (toksC l)
theorem TOwn.nil (base : Nat) (w : World) : TOwn base (.slice none 0 0) [] w := World.ownsRow_nil _ _ _ _
theorem oneCell_tok (t : TokL) : ∀ u ∈ tokC t, u.oneCell' = true := by
 intro u hu
 simp [tokC] at hu
 rcases hu with rfl | rfl | rfl | rfl | rfl | rfl <;> rfl
theorem tok_base {w : World} {base : Nat} {v : Value} {l : List TokL} (h : TOwn base v l w) : ∀ k, v.ownBlock = some k -> base <= k /\ k < w.heap.size := by
 intro k hk
 rcases h.2 with ⟨rfl, _⟩ | ⟨g, cap, cur, rfl, h1, h2, _⟩
 · simp [Value.ownBlock] at hk
 · simp [Value.ownBlock] at hk
   subst hk
   exact ⟨h1, (Array.getElem?_eq_some_iff.1 h2).1⟩
theorem tok_cells {w : World} {base : Nat} {v : Value} {l : List TokL} (h : TOwn base v l w) : ∀ (j : Nat) (o : Obj), v.ownBlock = some j -> w.heap[j]? = some o -> o.isCells = true := by
 intro j o hj ho
 rcases h.2 with ⟨rfl, _⟩ | ⟨g, cap, cur, rfl, _, h3, _⟩
 · simp [Value.ownBlock] at hj
 · simp [Value.ownBlock] at hj
   subst hj
   rw [h3] at ho; cases ho; rfl
theorem tok_grown {w w' : World} {row : Option Nat} {base : Nat} {v : Value} {l : List TokL} (h : TOwn base v l w) (hg : w.grownBy w' row) (hne : ∀ k, v.ownBlock = some k -> some k ≠ row) : TOwn base v l w' := by
 refine World.ownsRow.kept h hg ?_
 cases hv : v.ownBlock with
 | none => exact .inl rfl
 | some k => exact .inr (hne k hv)
def TView (w : World) (v : Value) (l : List TokL) : Prop := ∃ a cap, v = .slice a l.length cap /\ l.length <= cap /\ At w a (toksC l)
theorem TOwn.view {base : Nat} {v : Value} {l : List TokL} {w : World} (h : TOwn base v l w) : TView w v l := by
 rcases h.2 with ⟨rfl, h2⟩ | ⟨g, cap, cur, rfl, _, _, hn, _⟩
 · have : l.length = 0 := by have := toksC_len l; have := h.1; rw [h2] at this; simp at this; omega
   obtain rfl := List.eq_nil_of_length_eq_zero this
   exact ⟨none, 0, rfl, Nat.le_refl _, fun j hj => by simp [toksC] at hj⟩
 · refine ⟨_, cap, rfl, hn, fun j hj => ⟨g, 0, rfl, ?_⟩⟩
   have := h.cells (g := g) rfl j (toksC l)[j] (List.getElem?_eq_getElem hj)
   rw [add0] at this
   rw [Nat.zero_add]
   exact this
theorem tokens_fn (n : Nat) (s : List UInt8) (w : World) : CallsIn Fence.wide n Tryz.prog 39 #[.string (B s)] w fun e w' => e = .returned (.func (.func 60) #[] #[.pointer (some ⟨w.heap.size, 0, none⟩)]) /\ w' = w.alloc (.cells #[.string (B s)] 9) := by
 refine callsIn_of_wp Tryz.func39 rfl trivial ?_ rfl
 simp only [Tryz.ntmps39, List.size_toArray, List.length_cons, List.length_nil, Nat.reduceAdd, Nat.reduceSub, Array.replicate_succ, Array.replicate_zero, List.push_toArray, List.append_toArray, List.nil_append, List.cons_append]
 gi_wp2_with fail
 go_ret
 exact ⟨rfl, rfl⟩
structure TaIn (w : World) (g2 g3 gl n1 c : Nat) (ts : List TokL) (v : Value) (W : World) : Prop where
 b2 : Boxed W g2 44 (.slice none 0 0)
 b3 : Boxed W g3 37 .nilIface
 bl : Boxed W gl 44 v
 ow : TOwn (c + 1) v ts W
 lt : n1 <= W.heap.size
 nc : n1 <= c
 bw : Below w.heap.size w W
def TaI (w : World) (g2 g3 gl n1 c : Nat) (xs : List (TokL × Value)) (W : World) : Prop := ∃ ts v, xs = okT ts /\ TaIn w g2 g3 gl n1 c ts v W
def TaX (w : World) (g2 g3 : Nat) (r : List TokL × Option (Nat × Int)) (k : Code) (_c : Nat) (_xs : List (TokL × Value)) (W : World) : Prop := k = .ret /\ ∃ q ev, r.2 = some q /\ Boxed W g2 44 (.slice none 0 0) /\ Boxed W g3 37 ev /\ ErrIs W ev (.inr q) /\ Below w.heap.size w W
theorem err_box {W : World} {g : Nat} {T : TypeId} {u ev : Value} {q : Nat × Int} (h : ErrIs W ev (.inr q)) (hb : Boxed W g T u) (v : Value) : ErrIs (W.setCell ⟨g, 0, none⟩ v) ev (.inr q) := by
 obtain ⟨p, N⟩ := q
 obtain ⟨B, rfl, e1, e2⟩ := h
 have hne : B ≠ g := fun e => by
   subst e
   simp only [World.cell?, show W.heap[B]? = _ from hb] at e2
   simp at e2
 exact ⟨B, rfl, by rw [World.cell?_setCell_other _ _ _ _ (fun e => hne (congrArg Addr.block e).symm)]; exact e1, by rw [World.cell?_setCell_other _ _ _ _ (fun e => hne (congrArg Addr.block e).symm)]; exact e2⟩
def firstRangeT : Code -> Option Code
 | .rangeFunc g ps a b => some (.rangeFunc g ps a b)
 | .loop c => firstRangeT c
 | .seq a b => match firstRangeT a with
   | some c => some c
   | none => firstRangeT b
 | .block _ c => firstRangeT c
 | .scope c => firstRangeT c
 | .cond _ a b => match firstRangeT a with
   | some c => some c
   | none => firstRangeT b
 | _ => none
def rangePartsT : Code -> Option (Code × Code)
 | .rangeFunc _ _ a b => some (a, b)
 | _ => none
noncomputable def allParts : Code × Code := (rangePartsT ((Tryz.f18.body.bind firstRangeT).getD .skip)).getD (.skip, .skip)
theorem keeps_belowT {W W' : World} (h : Below W.heap.size W W') : KeepsOthers W W' := ⟨h.size, fun k _o hk _ => (h.block k (Array.getElem?_eq_some_iff.1 hk).1).trans hk⟩
theorem boxed_belowT {W W' : World} {n B : Nat} {t : TypeId} {v : Value} (h : Boxed W B t v) (hb : Below n W W') (hB : B < n) : Boxed W' B t v := (hb.block B hB).trans h
set_option maxHeartbeats 4000000 in
theorem all_new (n : Nat) (_hn : 3 <= n) (s : List UInt8) (w : World) (g2 g3 gl gs n1 c lr : Nat) (h2 : w.heap.size <= g2) (h3 : g2 < g3) (h4 : g3 < gl) (h5 : gl < n1) (hc : n1 <= c) (r : List TokL × Option (Nat × Int)) (pre : List TokL) (t : TokL) (v : Value) (W : World) (hcW : c < W.heap.size) (P : TaIn w g2 g3 gl n1 c pre v W) (hlen : pre.length < 8388608) (g5 : Nat) (_hg5 : n1 <= g5) (_h55 : g5 ≠ c) (HT5 : RowAt W g5 (tokC t)) (_z : Value) :
   allParts.2.wpIn (Fence.wide.inRound lr) (n - 1 - 1) Tryz.prog (postM n1 (KpT w.heap.size c) (TaI w g2 g3 gl n1 c) (fun d => TaX w g2 g3 r d c) (okT pre ++ [(t, .nilIface)]) W) { tmps := #[.string (B s), undef, .pointer (some ⟨g2, 0, none⟩), .pointer (some ⟨g3, 0, none⟩), .pointer (some ⟨gl, 0, none⟩), .pointer (some ⟨g5, 0, none⟩), .nilIface, .string (B s), .func (.func 60) #[] #[.pointer (some ⟨gs, 0, none⟩)], tv t, .nilIface, undef, undef, undef, undef, undef, undef, undef, undef], defers := [] } W := by
 obtain ⟨⟨a0, a1, a2, a3, a4, a5⟩, p0, p1, p2, p3, p4, p5⟩ := row6 HT5
 have hlt := RowAt.inside HT5
 obtain ⟨i0, hi, hz0, hz1, hz2⟩ := info_parts infoT
 obtain ⟨va, vc, rfl, _, _⟩ := P.ow.view
 have c4 := P.bl.cell
 have ltW := P.lt
 have l4 := P.bl.lt
 have PP := Lib.hid P
 clear P
 have P := PP
 conv => arg 4; whnf
 gi_wp2_with (gi_at_builtin; go_loud (refine wpListIn_append_own _ rfl _ _ 44 rfl (c + 1) 50 i0 _ 6 72 Tryz.underlying44 hi hz0 hz1 hz2 rfl (by decide) _ _ _ rfl (World.ownsRow.alloc P.out.ow _) ⟨W.heap.size, 0, none⟩ 1 1 (tokC t) rfl rfl (cell_row W (tokC t) _) (oneCell_tok t) (by unfold maxLen; omega) (by omega) (by simp; omega) ?_; intro v' w6 hown6 hgrow6 _; obtain ⟨g', cap', rfl⟩ := ownsRow_succ hown6; have R6 := Lib.hid hgrow6; have O6 := Lib.hid hown6; have x6 := (P.out.bl.alloc (.cells (tokC t).toArray 50)).kept hgrow6 (P.out.bl.not_row (by decide) P.out.ow); have c6 := x6.cell; have f6 := x6.frozen; have l6 := x6.lt; have X6 := Lib.hid x6; clear hown6 hgrow6 x6))
 have OA : TOwn (c + 1) (.slice va pre.length vc) pre (W.alloc (.cells (tokC t).toArray 50)) := World.ownsRow.alloc P.out.ow _
 have KK : ∀ k, k <= c -> k ≠ gl -> (w6.setCell ⟨gl, 0, none⟩ (.slice (some ⟨g', 0, none⟩) (pre.length + 1) cap')).heap[k]? = W.heap[k]? := fun k h1 h2 => by
   rw [RowKit.Below.heap_setCell _ _ _ _ h2, R6.out.block k (by simp; omega) (fun e => by have := (tok_base OA k e.symm).1; omega), heap_alloc_old _ _ (by omega)]
 have b1 : Below w.heap.size W (W.alloc (.cells (tokC t).toArray 50)) := (Below.refl _ _).alloc (by have := P.out.bw.size; omega) _
 have b2 := b1.grown R6.out (by have := P.out.bw.size; simp; omega) (fun k e => by have := (tok_base OA k e).1; omega)
 have b3 := b2.setCell (p := ⟨gl, 0, none⟩) (by show w.heap.size <= gl; omega) (.slice (some ⟨g', 0, none⟩) (pre.length + 1) cap')
 refine ⟨(((KeepsOthers.alloc W _).from n1).trans (((KeepsOthers.of_grownBy R6.out (fun j o hj ho => tok_cells OA j o hj ho)).from n1).trans ((KeepsOthers.setCell w6 _ _).from n1))), ⟨b3, KK c (Nat.le_refl _) (by omega)⟩, ⟨pre ++ [t], _, (okT_snoc pre t).symm, ⟨(KK g2 (by omega) (by omega)).trans P.out.b2, (KK g3 (by omega) (by omega)).trans P.out.b3, X6.out.set _, ?_, Nat.le_trans P.out.lt b3.size, P.out.nc, P.out.bw.trans b3⟩⟩⟩
 have ho : TOwn (c + 1) (.slice (some ⟨g', 0, none⟩) (pre.length + 1) cap') (pre ++ [t]) w6 := by
   unfold TOwn
   rw [List.length_append, List.length_singleton, toksC_snoc]
   exact O6.out
 exact tok_grown ho (grownBy_setCell' w6 gl _) (fun k hk e => by have h1 := (tok_base ho k hk).1; have h2 := Option.some.inj e; omega)
set_option maxHeartbeats 4000000 in
theorem all_bad (n : Nat) (s : List UInt8) (w : World) (g2 g3 gl gs n1 c lr : Nat) (h2 : w.heap.size <= g2) (h3 : g2 < g3) (h4 : g3 < gl) (h5 : gl < n1) (hc : n1 <= c) (r : List TokL × Option (Nat × Int)) (pre : List TokL) (v : Value) (W : World) (P : TaIn w g2 g3 gl n1 c pre v W) (q : Nat × Int) (hr : r.2 = some q) (eb : Nat) (HE : ErrIs W (.iface 91 (.pointer (some ⟨eb, 0, none⟩))) (.inr q)) (t5 t9 : Value) (xs : List (TokL × Value)) :
   allParts.2.wpIn (Fence.wide.inRound lr) (n - 1 - 1) Tryz.prog (postM n1 (KpT w.heap.size c) (TaI w g2 g3 gl n1 c) (fun d => TaX w g2 g3 r d c) xs W) { tmps := #[.string (B s), undef, .pointer (some ⟨g2, 0, none⟩), .pointer (some ⟨g3, 0, none⟩), .pointer (some ⟨gl, 0, none⟩), t5, .iface 91 (.pointer (some ⟨eb, 0, none⟩)), .string (B s), .func (.func 60) #[] #[.pointer (some ⟨gs, 0, none⟩)], t9, .iface 91 (.pointer (some ⟨eb, 0, none⟩)), undef, undef, undef, undef, undef, undef, undef, undef], defers := [] } W := by
 have c2 := P.b2.cell
 have l2 := P.b2.lt
 have f2 := P.b2.frozen
 have c3 := P.b3.cell
 have l3 := P.b3.lt
 have f3 := P.b3.frozen
 have PP := Lib.hid P
 have HEE := Lib.hid HE
 have ltW := P.lt
 clear P HE
 have P := PP
 have hne : ¬ g2 = g3 := by omega
 conv => arg 4; whnf
 gi_wp2_with fail
 have b1 := ((Below.refl w.heap.size W).setCell (p := ⟨g2, 0, none⟩) h2 (.slice none 0 0)).setCell (p := ⟨g3, 0, none⟩) (by show w.heap.size <= g3; omega) (.iface 91 (.pointer (some ⟨eb, 0, none⟩)))
 refine ⟨((KeepsOthers.setCell _ _ _).trans (KeepsOthers.setCell _ _ _)).from _, ⟨b1, ?_⟩, rfl, q, _, hr, (P.out.b2.set _).other (by omega) _, (P.out.b3.other (by omega) _).set _, err_box (err_box HEE.out P.out.b2 _) (P.out.b3.other (by omega) _) _, P.out.bw.trans b1⟩
 rw [RowKit.Below.heap_setCell _ _ _ _ (by show c ≠ g3; omega), RowKit.Below.heap_setCell _ _ _ _ (by show c ≠ g2; omega)]
end Go.Proofs.YtdhmpakhdhdebaaGreatDoor
