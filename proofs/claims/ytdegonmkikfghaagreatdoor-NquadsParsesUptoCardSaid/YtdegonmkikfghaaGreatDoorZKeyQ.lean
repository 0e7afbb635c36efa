/-
  A quad as a map's key: what it reads as; the set of some quads. By an AI agent.
-/
import Derived.DeepKeys4
import Derived.Maps.OwnIn
import Derived.Test.YtdegonmkikfghaaGreatDoorZEol0
import Derived.Test.YtdegonmkikfghaaGreatDoorZCmpG
import Derived.Test.YtdegonmkikfghaaGreatDoorZAs
import Derived.Laws.EntriesVeiled
namespace Go.Proofs.YtdegonmkikfghaaGreatDoor
open Lib (hid)
open Go.RowKit
set_option maxRecDepth 100000
def litsT (t : TermL) : List Lit := [.int .i64 t.kind, .string t.text, .string t.type, .string t.lang]
def litsQ (q : QuadL) : List Lit := litsT q.s ++ (litsT q.p ++ (litsT q.o ++ litsT q.g))
def keyQ (q : QuadL) : Lit := .string (keyBytes (litsQ q))
theorem kind_wf {k : Int} (h : 0 <= k /\ k <= 3) : (Lit.int .i64 k).wf = true := by
 simp [Lit.wf, IntKind.min, IntKind.max, IntKind.signed, IntKind.bits]
 omega
theorem litsT_wf {t : TermL} (h : WfT t) : ∀ a ∈ litsT t, a.keyWf := by
 intro a ha
 unfold litsT at ha
 simp at ha
 obtain ⟨h1, h2, h3, h4⟩ := h
 rcases ha with rfl | rfl | rfl | rfl
 ·exact kind_wf h1
 ·show t.text.length <= maxLen; unfold maxLen; omega
 ·show t.type.length <= maxLen; unfold maxLen; omega
 ·show t.lang.length <= maxLen; unfold maxLen; omega
theorem litsQ_wf {q : QuadL} (h : WfQ q) : ∀ a ∈ litsQ q, a.keyWf := by
 intro a ha
 unfold litsQ at ha
 simp only [List.mem_append] at ha
 obtain ⟨h1, h2, h3, h4⟩ := h
 rcases ha with ha | ha | ha | ha
 ·exact litsT_wf h1 a ha
 ·exact litsT_wf h2 a ha
 ·exact litsT_wf h3 a ha
 ·exact litsT_wf h4 a ha
theorem litsT_inj {a b : TermL} (h : litsT a = litsT b) : a = b := by
 obtain ⟨k, x, y, z⟩ := a
 obtain ⟨k', x', y', z'⟩ := b
 simp [litsT] at h
 simp [h]
theorem litsQ_inj {a b : QuadL} (h : litsQ a = litsQ b) : a = b := by
 obtain ⟨s, p, o, g⟩ := a
 obtain ⟨s', p', o', g'⟩ := b
 have e := h
 unfold litsQ at e
 obtain ⟨e1, e⟩ := List.append_inj e rfl
 obtain ⟨e2, e⟩ := List.append_inj e rfl
 obtain ⟨e3, e4⟩ := List.append_inj e rfl
 simp only at e1 e2 e3 e4
 rw [litsT_inj e1, litsT_inj e2, litsT_inj e3, litsT_inj e4]
theorem keyQ_inj {a b : QuadL} (ha : WfQ a) (hb : WfQ b) (h : keyQ a = keyQ b) : a = b := by
 unfold keyQ at h
 exact litsQ_inj (keyBytes_inj (by simp [litsQ, litsT, Alike, Lit.sameKind]) (litsQ_wf ha) (litsQ_wf hb) (by injection h))
theorem lawQ : Go.Maps.Keyed Tryz.prog 36 := Go.Maps.Keyed.of_law (deep_law_laid (by kernel_rfl) (m := 3) (by decide) (of_decide_eq_true (by kernel_rfl)) (by kernel_rfl) (by kernel_rfl))
theorem cellsOf_t : Tryz.prog.cellsOf 34 = 4 := by kernel_rfl
theorem cellsOf_q : Tryz.prog.cellsOf 36 = 16 := by kernel_rfl
theorem cellsOf_i : Tryz.prog.cellsOf 3 = 1 := by kernel_rfl
theorem cellsOf_s : Tryz.prog.cellsOf 9 = 1 := by kernel_rfl
theorem keyT_run (d : Nat) {t : TermL} (h : WfT t) : Tryz.prog.keyLits (d + 2) 34 [.int .i64 t.kind, .string (B t.text), .string (B t.type), .string (B t.lang)] = some (litsT t) := by
 obtain ⟨h1, h2, h3, h4⟩ := h
 have w := kind_wf h1
 have l2 : (B t.text).size <= maxLen := by rw [B_size]; unfold maxLen; omega
 have l3 : (B t.type).size <= maxLen := by rw [B_size]; unfold maxLen; omega
 have l4 : (B t.lang).size <= maxLen := by rw [B_size]; unfold maxLen; omega
 simp [Program.keyLits, Tryz.underlying34, Tryz.underlying3, Tryz.underlying9, cellsOf_t, cellsOf_i, cellsOf_s, w, l2, l3, l4, litsT]
 exact ⟨rfl, rfl, rfl⟩
theorem keyOf_q {q : QuadL} (h : WfQ q) : keyOf Tryz.prog 36 (qv q) = some (keyQ q) := by
 obtain ⟨h1, h2, h3, h4⟩ := h
 unfold keyOf
 simp only [Tryz.underlying36]
 have kt : Tryz.prog.keyType 36 = true := by kernel_rfl
 have fm : Value.formed Tryz.prog 36 (qv q) = true := by simp [Value.formed, Tryz.underlying36, cellsOf_q]
 rw [kt, fm]
 obtain ⟨d, hd⟩ : ∃ d, Tryz.prog.types.size + 1 = d + 3 := ⟨Tryz.prog.types.size - 2, by
  have : 2 <= Tryz.prog.types.size := of_decide_eq_true (by kernel_rfl)
  omega⟩
 rw [hd, if_pos (show (true && true) = true from rfl)]
 have e : Tryz.prog.keyLits (d + 3) 36 (qv q).cells.toList = some (litsQ q) := by
  unfold Program.keyLits
  simp [Tryz.underlying36, cellsOf_q, cellsOf_t, Value.cells, keyT_run d h1, keyT_run d h2, keyT_run d h3, keyT_run d h4, litsQ]
 rw [e]
 rfl
theorem isKey_q (q : QuadL) : WideAt.IsKeyLit (keyQ q) := by
 unfold keyQ
 simp [WideAt.IsKeyLit]
noncomputable def setD (a : List QuadL) : DataW Unit := Go.Maps.setOf (.agg []) (a.map keyQ)
theorem setD_snoc (a : List QuadL) (q : QuadL) : setD (a ++ [q]) = (setD a).put (keyQ q) (.agg []) := by unfold setD; rw [List.map_append]; exact Go.Maps.setOf_snoc _ _ _
theorem has_setD {a : List QuadL} {q : QuadL} (ha : ∀ x ∈ a, WfQ x) (hq : WfQ q) : Go.Maps.has (setD a) (keyQ q) = decide (q ∈ a) := by
 unfold setD
 rw [Go.Maps.has_setOf _ _ _ (fun x hx => by obtain ⟨y, _, rfl⟩ := List.mem_map.1 hx; exact isKey_q y)]
 rw [Bool.eq_iff_iff, List.any_eq_true, decide_eq_true_eq]
 constructor
 ·rintro ⟨x, hx, hs⟩
  obtain ⟨y, hy, rfl⟩ := List.mem_map.1 hx
  have := WideAt.sameKey_eq hs
  rw [<- keyQ_inj (ha y hy) hq this]
  exact hy
 ·intro hm
  exact ⟨keyQ q, List.mem_map.2 ⟨q, hm, rfl⟩, WideAt.sameKey_self (isKey_q q)⟩
end Go.Proofs.YtdegonmkikfghaaGreatDoor
namespace Go.Proofs.YtdegonmkikfghaaGreatDoor
open Lib (hid)
open Go.RowKit Go.Shelf
set_option maxRecDepth 1000000
attribute [local go_sem] Oper.semAt_some
theorem keeps_below {W W' : World} (h : Below W.heap.size W W') : KeepsOthers W W' := ⟨h.size, fun k _o hk _ => (h.block k (Array.getElem?_eq_some_iff.1 hk).1).trans hk⟩
theorem boxed_below' {W W' : World} {B : Nat} {t : TypeId} {v : Value} (h : Boxed W B t v) (hb : Below W.heap.size W W') : Boxed W' B t v := (hb.block B h.lt).trans h
theorem wpListIn_load_quad {F : Fence} {n : Nat} {ops : Array Oper} {rest : List Oper} {o : Oper} {a : Act} {w : World} {Q : Exit -> Act -> World -> Prop} (hgd : o.guard = none) (x : Operand) (ho : o.op = .load 36 x)
  (b k : Nat) (hx : a.eval x = .pointer (some ⟨b, k, none⟩)) (q : QuadL) (hr : w.rangeAt b k (quadC q)) (h : wpListIn F n Tryz.prog ops Q rest (a.put o.dst (qv q)) w) : wpListIn F n Tryz.prog ops Q (o :: rest) a w := by
 refine wpListIn_plain hgd fun K hK => ?_
 have hl : (Instr.loadAt 36 (.pointer (some ⟨b, k, none⟩))).run Tryz.prog w = .ok (qv q) w := run_loadAt_mid w b k _ (quadC q) _ hr Tryz.underlying36 rfl (by kernel_rfl)
 unfold Oper.wpIn
 refine ⟨?_, ?_⟩
 ·simp [Oper.about, ho]
 ·rw [Oper.semAt_plain F _ _ (by rw [ho]; intro c hc'; cases hc')]
  simp only [execOp, ho, hx, Sem.run_bind, hl, Result.andThen_ok, Sem.run_pure]
  exact hK _ _ h
theorem wpListIn_build1 {F : Fence} {n : Nat} {ops : Array Oper} {rest : List Oper} {op : Oper} {a : Act} {w : World} {Q : Exit -> Act -> World -> Prop} (hgd : op.guard = none) (i : Operand) (ho : op.op = .buildSlice 22 1 #[(0, i)])
  (x : QuadL) (hx : a.eval i = qv x) (h : wpListIn F n Tryz.prog ops Q rest (a.put op.dst (.slice (some ⟨w.heap.size, 0, none⟩) 1 1)) (w.alloc (.cells (quadsC [x]).toArray 36))) : wpListIn F n Tryz.prog ops Q (op :: rest) a w := by
 refine wpListIn_plain hgd fun K hK => ?_
 have e : (#[((0 : Nat), i)]).map (fun (p : Nat × Operand) => (p.1, a.eval p.2)) = #[(0, qv x)] := by simp [hx]
 unfold Oper.wpIn
 refine ⟨?_, ?_⟩
 ·simp [Oper.about, ho]
 ·rw [Oper.semAt_plain F _ _ (by rw [ho]; intro c hc'; cases hc')]
  simp only [execOp, ho, e, Sem.run_bind, run_build1, Result.andThen_ok, Sem.run_pure]
  exact hK _ _ h
structure PaG (r g2 g3 gl gm gb gs n1 : Nat) : Prop where
 a : r <= g2
 b : g2 < g3
 c : g3 < gl
 d : gl < gm
 e : gm < gb
 f : gb < gs
 g : gs < n1
structure PaIn (w : World) (g2 g3 gl gm gb n1 : Nat) (pre : List (Nat × List UInt8)) (a : List QuadL) (v : Value) (W : World) : Prop where
 rd : readP pre = .inl a
 b2 : Boxed W g2 22 (.slice none 0 0)
 b3 : Boxed W g3 38 .nilIface
 bl : Boxed W gl 22 v
 ql : QOwn n1 v a W
 mp : W.ownsMap Tryz.prog 36 Go.unitElem gm a.length (setD a)
 bm : Boxed W gb 95 (.map (some gm))
 lt : n1 <= W.heap.size
 bw : Below w.heap.size w W
 nl : a = [] -> v = .slice none 0 0
def PaI (w : World) (g2 g3 gl gm gb n1 : Nat) (pre : List (Nat × List UInt8)) (W : World) : Prop := ∃ a v, PaIn w g2 g3 gl gm gb n1 pre a v W
def PaX (w : World) (g2 g3 : Nat) (k : Code) (pre : List (Nat × List UInt8)) (W : World) : Prop := k = .ret /\ ∃ p n ev, readP pre = .inr (p, n) /\ Boxed W g2 22 (.slice none 0 0) /\ Boxed W g3 38 ev /\ ErrIs W ev (.inr (p, n)) /\ Below w.heap.size w W
theorem PaIn.below {w : World} {g2 g3 gl gm gb n1 : Nat} {pre pre' : List (Nat × List UInt8)} {a : List QuadL} {v : Value} {W W' : World} (h : PaIn w g2 g3 gl gm gb n1 pre a v W) (hb : Below W.heap.size W W') (hr : w.heap.size <= n1) (_hgm : gm < n1) (hp : readP pre' = .inl a) : PaIn w g2 g3 gl gm gb n1 pre' a v W' :=
 ⟨hp, boxed_below' h.b2 hb, boxed_below' h.b3 hb, boxed_below' h.bl hb, h.ql.below hb, h.mp.kept (below_grown hb none) (by simp), boxed_below' h.bm hb, Nat.le_trans h.lt hb.size, h.bw.trans (hb.mono (Nat.le_trans hr h.lt)), h.nl⟩
theorem boxed_kept' {X Y : World} {row : Option Nat} {B : Nat} {t : TypeId} {v : Value} (h : Boxed X B t v) (hg : X.grownBy Y row) (hr : ∀ r, row = some r -> ∃ o : Obj, X.heap[r]? = some o /\ o.isCells = false) : Boxed Y B t v :=
 h.kept hg (fun e => by obtain ⟨o, ho, hc⟩ := hr B e.symm; rw [show X.heap[B]? = _ from h] at ho; cases ho; cases hc)
theorem cell_kept' {X Y : World} {row : Option Nat} {b k : Nat} {v : Value} (h : X.cell? ⟨b, k, none⟩ = some v) (hg : X.grownBy Y row) (hr : ∀ r, row = some r -> ∃ o : Obj, X.heap[r]? = some o /\ o.isCells = false) : Y.cell? ⟨b, k, none⟩ = some v := by
 have hlt := World.block_lt_of_cell? _ _ h
 have e := hg.block b hlt (fun e => by
  obtain ⟨o, ho, hc⟩ := hr b e.symm
  simp only [World.cell?, ho] at h
  cases o <;> simp_all [Obj.isCells])
 rw [World.cell?_of_block e]; exact h
theorem paI_own (w : World) (g2 g3 gl gm gb gs n1 : Nat) (G : PaG w.heap.size g2 g3 gl gm gb gs n1) : OwnFrom n1 (PaI w g2 g3 gl gm gb n1) := by
 obtain ⟨G1, G2, G3, G4, G5, G6, G7⟩ := G
 rintro pre X Y row ⟨a, v, h⟩ hg hr
 have hr2 : ∀ r, row = some r -> ∃ o : Obj, X.heap[r]? = some o /\ o.isCells = false := fun r e => (hr r e).2
 refine ⟨a, v, h.rd, boxed_kept' h.b2 hg hr2, boxed_kept' h.b3 hg hr2, boxed_kept' h.bl hg hr2, ?_, h.mp.kept hg (fun e => by have := (hr _ e.symm).1; omega), boxed_kept' h.bm hg hr2, Nat.le_trans h.lt hg.size, h.bw.grown hg h.bw.size (fun k e => by have := (hr _ e).1; omega), h.nl⟩
 refine ownsRow_grown h.ql hg (fun k hk e => ?_)
 obtain ⟨o, ho, hc⟩ := hr2 k e.symm
 rcases h.ql.2 with ⟨rfl, _⟩ | ⟨g, cap, cur, rfl, _, h3, _⟩
 ·simp [Value.ownBlock] at hk
 ·simp [Value.ownBlock] at hk
  subst hk
  rw [h3] at ho; cases ho; cases hc
theorem paX_own (w : World) (g2 g3 gl gm gb gs n1 : Nat) (G : PaG w.heap.size g2 g3 gl gm gb gs n1) (k : Code) : OwnFrom n1 (PaX w g2 g3 k) := by
 obtain ⟨G1, G2, G3, G4, G5, G6, G7⟩ := G
 rintro pre X Y row ⟨hk, p, n, ev, h1, h2, h3, h4, h5⟩ hg hr
 have hr2 : ∀ r, row = some r -> ∃ o : Obj, X.heap[r]? = some o /\ o.isCells = false := fun r e => (hr r e).2
 obtain ⟨b, rfl, e1, e2⟩ := h4
 exact ⟨hk, p, n, _, h1, boxed_kept' h2 hg hr2, boxed_kept' h3 hg hr2, ⟨b, rfl, cell_kept' e1 hg hr2, cell_kept' e2 hg hr2⟩, h5.grown hg h5.size (fun k e => by have := (hr _ e).1; omega)⟩
def firstRangeC : Code -> Option Code
 | .rangeFunc g ps a b => some (.rangeFunc g ps a b)
 | .loop c => firstRangeC c
 | .seq a b => match firstRangeC a with
  | some c => some c
  | none => firstRangeC b
 | .block _ c => firstRangeC c
 | .scope c => firstRangeC c
 | .cond _ a b => match firstRangeC a with
  | some c => some c
  | none => firstRangeC b
 | _ => none
def rangePartsC : Code -> Option (Code × Code)
 | .rangeFunc _ _ a b => some (a, b)
 | _ => none
noncomputable def parseBody : Code := ((rangePartsC ((Tryz.f25.body.bind firstRangeC).getD .skip)).getD (.skip, .skip)).2
theorem zeroU (w : World) : (zeroValue 96).run Tryz.prog w = .ok (.agg #[]) w := by kernel_rfl
theorem wfQ_no : WfQ noQuad := ⟨wfT_none, wfT_none, wfT_none, wfT_none⟩
set_option maxHeartbeats 2000000 in
theorem round_none (n : Nat) (hn : 3 <= n) (l : List UInt8) (a : Option Addr) (c : Nat) (w : World) (g2 g3 gl gm gb gs n1 : Nat) (G : PaG w.heap.size g2 g3 gl gm gb gs n1) (hT : TabAt w) (hM : MaxAt w) (lr : Nat) (pre : List (Nat × List UInt8)) (x : Nat × List UInt8) (A : List QuadL) (v : Value) (W : World) (P : PaIn w g2 g3 gl gm gb n1 pre A v W) (_hx1 : x.1 <= 67108864) (hx2 : x.2.length <= 16777216) (hx : lineAt x.2 = .inl none) :
  parseBody.wpIn (Fence.wide.inRound lr) (n - 1 - 1) Tryz.prog (ownPostG n1 (KpB w.heap.size gs (.cells #[.slice a l.length c] 25 (0, 0))) (PaI w g2 g3 gl gm gb n1) (PaX w g2 g3) (pre ++ [x]) W) { tmps := #[.slice a l.length c, undef, .pointer (some ⟨g2, 0, none⟩), .pointer (some ⟨g3, 0, none⟩), .pointer (some ⟨gl, 0, none⟩), .pointer (some ⟨gb, 0, none⟩), .int .i64 (x.1 : Int), .string (B x.2), undef, undef, undef, undef, undef, .slice a l.length c, .int .i64 (l.length : Int), .bool false, undef, .map (some gm), .slice a l.length c, .func (.func 69) #[] #[.pointer (some ⟨gs, 0, none⟩)], .int .i64 (x.1 : Int), .string (B x.2), undef, undef, undef, undef, undef, undef, undef, undef, undef, undef, undef, undef, undef, undef, undef, undef, undef, undef, undef, undef, undef, undef, undef, undef, undef, undef, undef, undef, undef, undef, undef, undef, undef, undef, undef, undef, undef, undef, undef], defers := [] } W := by
 obtain ⟨G1, G2, G3, G4, G5, G6, G7⟩ := G
 have lt := P.lt
 have hn1 : 1 <= n - 1 - 1 := by omega
 have LN0 := line_l x.2 W (hT.below P.bw) (hM.below P.bw) hx2
 rw [hx] at LN0
 have LN := hid LN0
 have HRD : Hid (readP (pre ++ [x]) = .inl A) := hid (readP_none P.rd hx)
 have HK := hid (keyOf_q wfQ_no)
 have HH : Hid (Go.Maps.has (setD A) (keyQ noQuad) = decide (noQuad ∈ A)) := hid (has_setD (readP_good P.rd).2 wfQ_no)
 have PP := hid P
 clear LN0 hT hM hx P
 have P := PP
 conv => arg 4; whnf
 gi_wp2_with (first
  | (refine ⟨trivial, ?_⟩; gi_at_call 38; refine (CallsIn.inRound lr (callsIn_wide.2 LN.out)).mono ?_; rintro e w3 ⟨rfl, hb3⟩; have P3 := hid (P.out.below hb3 (by omega) (by omega) P.out.rd); have B3 := hid hb3; have c5 := P3.out.bm.cell; have l5 := P3.out.bm.lt; clear hb3)
  | (refine wpListIn_load_quad rfl (.tmp 8) rfl w3.heap.size 0 rfl noQuad (range_row (World.alloc_heap_new w3 _)) ?_)
  | (gi_at_lookup; refine wpListIn_lookup_own_unit _ rfl _ _ 95 rfl 36 96 lawQ Tryz.underlying95 (zeroU _) gm A.length (setD A) rfl (P3.out.mp.alloc _) _ _ rfl HK.out ?_; rw [HH.out]))
 have hbs := B3.out.size
 have hBB := (B3.out.alloc hbs (.cells #[.int .i64 noQuad.s.kind, .string (B noQuad.s.text), .string (B noQuad.s.type), .string (B noQuad.s.lang), .int .i64 noQuad.p.kind, .string (B noQuad.p.text), .string (B noQuad.p.type), .string (B noQuad.p.lang), .int .i64 noQuad.o.kind, .string (B noQuad.o.text), .string (B noQuad.o.type), .string (B noQuad.o.lang), .int .i64 noQuad.g.kind, .string (B noQuad.g.text), .string (B noQuad.g.type), .string (B noQuad.g.lang)] 36)).alloc (by simp; omega) (.cells #[] 96)
 exact ⟨(keeps_below hBB).from _, ⟨hBB.mono (by omega), fun h => (hBB.block gs (by omega)).trans h⟩, ⟨A, v, P.out.below hBB (by omega) (by omega) HRD.out⟩⟩
set_option maxHeartbeats 2000000 in
theorem round_old (n : Nat) (hn : 3 <= n) (l : List UInt8) (a : Option Addr) (c : Nat) (w : World) (g2 g3 gl gm gb gs n1 : Nat) (G : PaG w.heap.size g2 g3 gl gm gb gs n1) (hT : TabAt w) (hM : MaxAt w) (lr : Nat) (pre : List (Nat × List UInt8)) (x : Nat × List UInt8) (A : List QuadL) (v : Value) (W : World) (P : PaIn w g2 g3 gl gm gb n1 pre A v W) (_hx1 : x.1 <= 67108864) (hx2 : x.2.length <= 16777216) (q : QuadL) (hx : lineAt x.2 = .inl (some q)) (hm : q ∈ A) :
  parseBody.wpIn (Fence.wide.inRound lr) (n - 1 - 1) Tryz.prog (ownPostG n1 (KpB w.heap.size gs (.cells #[.slice a l.length c] 25 (0, 0))) (PaI w g2 g3 gl gm gb n1) (PaX w g2 g3) (pre ++ [x]) W) { tmps := #[.slice a l.length c, undef, .pointer (some ⟨g2, 0, none⟩), .pointer (some ⟨g3, 0, none⟩), .pointer (some ⟨gl, 0, none⟩), .pointer (some ⟨gb, 0, none⟩), .int .i64 (x.1 : Int), .string (B x.2), undef, undef, undef, undef, undef, .slice a l.length c, .int .i64 (l.length : Int), .bool false, undef, .map (some gm), .slice a l.length c, .func (.func 69) #[] #[.pointer (some ⟨gs, 0, none⟩)], .int .i64 (x.1 : Int), .string (B x.2), undef, undef, undef, undef, undef, undef, undef, undef, undef, undef, undef, undef, undef, undef, undef, undef, undef, undef, undef, undef, undef, undef, undef, undef, undef, undef, undef, undef, undef, undef, undef, undef, undef, undef, undef, undef, undef, undef, undef], defers := [] } W := by
 obtain ⟨G1, G2, G3, G4, G5, G6, G7⟩ := G
 have lt := P.lt
 have hn1 : 1 <= n - 1 - 1 := by omega
 have LN0 := line_l x.2 W (hT.below P.bw) (hM.below P.bw) hx2
 rw [hx] at LN0
 have LN := hid LN0
 have HRD : Hid (readP (pre ++ [x]) = .inl A) := hid (readP_old P.rd hx hm)
 have HK := hid (keyOf_q (lineAt_wf hx))
 have HH : Hid (Go.Maps.has (setD A) (keyQ q) = decide (q ∈ A)) := hid (has_setD (readP_good P.rd).2 (lineAt_wf hx))
 have PP := hid P
 clear LN0 hT hM hx P
 have P := PP
 have HH : Hid (Go.Maps.has (setD A) (keyQ q) = true) := hid (by rw [HH.out]; exact decide_eq_true hm)
 clear hm
 conv => arg 4; whnf
 gi_wp2_with (first
  | (refine ⟨trivial, ?_⟩; gi_at_call 38; refine (CallsIn.inRound lr (callsIn_wide.2 LN.out)).mono ?_; rintro e w3 ⟨rfl, hb3⟩; have P3 := hid (P.out.below hb3 (by omega) (by omega) P.out.rd); have B3 := hid hb3; have c5 := P3.out.bm.cell; have l5 := P3.out.bm.lt; clear hb3)
  | (refine wpListIn_load_quad rfl (.tmp 8) rfl w3.heap.size 0 rfl q (range_row (World.alloc_heap_new w3 _)) ?_)
  | (gi_at_lookup; refine wpListIn_lookup_own_unit _ rfl _ _ 95 rfl 36 96 lawQ Tryz.underlying95 (zeroU _) gm A.length (setD A) rfl (P3.out.mp.alloc _) _ _ rfl HK.out ?_; rw [HH.out]))
 have hbs := B3.out.size
 have hBB := (B3.out.alloc hbs (.cells #[.int .i64 q.s.kind, .string (B q.s.text), .string (B q.s.type), .string (B q.s.lang), .int .i64 q.p.kind, .string (B q.p.text), .string (B q.p.type), .string (B q.p.lang), .int .i64 q.o.kind, .string (B q.o.text), .string (B q.o.type), .string (B q.o.lang), .int .i64 q.g.kind, .string (B q.g.text), .string (B q.g.type), .string (B q.g.lang)] 36)).alloc (by simp; omega) (.cells #[] 96)
 exact ⟨(keeps_below hBB).from _, ⟨hBB.mono (by omega), fun h => (hBB.block gs (by omega)).trans h⟩, ⟨A, v, P.out.below hBB (by omega) (by omega) HRD.out⟩⟩
theorem err_put {u : World} {g p : Nat} {n : Int} {ev y z : Value} (h : ErrIs u ev (.inr (p, n))) (hc : u.cell? ⟨g, 0, none⟩ = some z) (hz : ∀ k, z ≠ .int .i64 k) : ErrIs (u.setCell ⟨g, 0, none⟩ y) ev (.inr (p, n)) := by
 obtain ⟨b, rfl, h1, h2⟩ := h
 have hne : b ≠ g := fun e => by
  subst e
  rw [hc] at h1
  exact hz _ (Option.some.inj h1)
 exact ⟨b, rfl, by rw [World.cell?_setCell_other _ _ _ _ (by simp [])]; exact h1, by rw [World.cell?_setCell_other _ _ _ _ (by simp [])]; exact h2⟩
set_option maxHeartbeats 2000000 in
theorem round_bad (n : Nat) (hn : 3 <= n) (l : List UInt8) (a : Option Addr) (c : Nat) (w : World) (g2 g3 gl gm gb gs n1 : Nat) (G : PaG w.heap.size g2 g3 gl gm gb gs n1) (hT : TabAt w) (hM : MaxAt w) (lr : Nat) (pre : List (Nat × List UInt8)) (x : Nat × List UInt8) (A : List QuadL) (v : Value) (W : World) (P : PaIn w g2 g3 gl gm gb n1 pre A v W) (hx1 : x.1 <= 67108864) (hx2 : x.2.length <= 16777216) (p : Nat) (e : Int) (hE : ErrType w) (hx : lineAt x.2 = .inr (p, e)) :
  parseBody.wpIn (Fence.wide.inRound lr) (n - 1 - 1) Tryz.prog (ownPostG n1 (KpB w.heap.size gs (.cells #[.slice a l.length c] 25 (0, 0))) (PaI w g2 g3 gl gm gb n1) (PaX w g2 g3) (pre ++ [x]) W) { tmps := #[.slice a l.length c, undef, .pointer (some ⟨g2, 0, none⟩), .pointer (some ⟨g3, 0, none⟩), .pointer (some ⟨gl, 0, none⟩), .pointer (some ⟨gb, 0, none⟩), .int .i64 (x.1 : Int), .string (B x.2), undef, undef, undef, undef, undef, .slice a l.length c, .int .i64 (l.length : Int), .bool false, undef, .map (some gm), .slice a l.length c, .func (.func 69) #[] #[.pointer (some ⟨gs, 0, none⟩)], .int .i64 (x.1 : Int), .string (B x.2), undef, undef, undef, undef, undef, undef, undef, undef, undef, undef, undef, undef, undef, undef, undef, undef, undef, undef, undef, undef, undef, undef, undef, undef, undef, undef, undef, undef, undef, undef, undef, undef, undef, undef, undef, undef, undef, undef, undef], defers := [] } W := by
 obtain ⟨G1, G2, G3, G4, G5, G6, G7⟩ := G
 have lt := P.lt
 have hn1 : 1 <= n - 1 - 1 := by omega
 have LN0 := line_l x.2 W (hT.below P.bw) (hM.below P.bw) hx2
 have hp := (lineAt_bad hx).1
 rw [hx] at LN0
 have LN := hid LN0
 have HRD : Hid (readP (pre ++ [x]) = .inr (x.1 + p, e)) := hid (readP_bad P.rd hx)
 have MV := hid (fun (ev : Value) (u : World) (hu : Below w.heap.size w u) (h : ErrIs u ev (.inr (p, e))) => nqMoved_l ev p x.1 e u (hE.below hu) h (by omega))
 have PP := hid P
 clear LN0 hT hM hE hx P
 have P := PP
 conv => arg 4; whnf
 gi_wp2_with (first
  | (refine ⟨trivial, ?_⟩; gi_at_call 38; refine (CallsIn.inRound lr (callsIn_wide.2 LN.out)).mono ?_; rintro e3 w3 ⟨⟨eb, rfl, he⟩, hb3⟩; have HEV := hid he; have B3 := hid hb3; clear hb3 he)
  | (refine ⟨trivial, ?_⟩; gi_at_call 46; have hbs := B3.out.size; have BA := hid (B3.out.alloc hbs (.cells #[.int .i64 noQuad.s.kind, .string (B noQuad.s.text), .string (B noQuad.s.type), .string (B noQuad.s.lang), .int .i64 noQuad.p.kind, .string (B noQuad.p.text), .string (B noQuad.p.type), .string (B noQuad.p.lang), .int .i64 noQuad.o.kind, .string (B noQuad.o.text), .string (B noQuad.o.type), .string (B noQuad.o.lang), .int .i64 noQuad.g.kind, .string (B noQuad.g.text), .string (B noQuad.g.type), .string (B noQuad.g.lang)] 36)); refine (CallsIn.inRound lr (callsIn_wide.2 (MV.out _ _ (P.out.bw.trans (BA.out.mono (by omega))) (HEV.out.below ((Below.refl _ _).alloc (Nat.le_refl _) _))))).mono ?_; rintro e3 w5 ⟨⟨eb5, rfl, he5⟩, hb5⟩; have HE5 := hid he5; have B5 := hid (BA.out.trans (hb5.mono BA.out.size)); have x2 := boxed_below' P.out.b2 B5.out; have x3 := boxed_below' P.out.b3 B5.out; have k2 := x2.cell; have k3 := x3.cell; have f2 := x2.frozen; have f3 := x3.frozen; have l2 := x2.lt; have l3 := x3.lt; have X2 := hid x2; have X3 := hid x3; clear he5 hb5 x2 x3))
 refine ⟨(((keeps_below B5.out).trans (KeepsOthers.setCell _ _ _)).trans (KeepsOthers.setCell _ _ _)).from _, rfl, x.1 + p, e, .iface 86 (.pointer (some ⟨eb5, 0, none⟩)), HRD.out, ?_, ?_, ?_, ?_⟩
 ·exact (X2.out.set _).other (by omega) _
 ·exact (X3.out.other (by omega) _).set _
 ·refine err_put (err_put HE5.out X2.out.cell (fun _ h => by cases h)) ?_ (z := .nilIface) (fun _ h => by cases h)
  rw [World.cell?_setCell_other _ _ _ _ (by first | (simp; done) | (simp; omega))]
  exact X3.out.cell
 ·exact ((P.out.bw.trans (B5.out.mono (by omega))).setCell (by show w.heap.size <= g2; omega) _).setCell (by show w.heap.size <= g3; omega) _
theorem own_ne {w : World} {base : Nat} {e : TypeId} {s : Nat} {v : Value} {n : Nat} {xs : List Value} (h : w.ownsRow base e s v n xs) {k : Nat} (hk : k < base) : some k ≠ v.ownBlock := fun e => by
 have := own_base h k e.symm
 omega
theorem own_cells {w : World} {base : Nat} {e : TypeId} {s : Nat} {v : Value} {n : Nat} {xs : List Value} (h : w.ownsRow base e s v n xs) : ∀ (j : Nat) (o : Obj), v.ownBlock = some j -> w.heap[j]? = some o -> o.isCells = true := by
 intro j o hj ho
 rcases h.2 with ⟨rfl, _⟩ | ⟨g, cap, cur, rfl, _, h3, _⟩
 ·simp [Value.ownBlock] at hj
 ·simp [Value.ownBlock] at hj
  subst hj
  rw [h3] at ho; cases ho; rfl
set_option maxHeartbeats 4000000 in
theorem round_new (n : Nat) (hn : 3 <= n) (l : List UInt8) (a : Option Addr) (c : Nat) (w : World) (g2 g3 gl gm gb gs n1 : Nat) (G : PaG w.heap.size g2 g3 gl gm gb gs n1) (hT : TabAt w) (hM : MaxAt w) (lr : Nat) (pre : List (Nat × List UInt8)) (x : Nat × List UInt8) (A : List QuadL) (v : Value) (W : World) (P : PaIn w g2 g3 gl gm gb n1 pre A v W) (_hx1 : x.1 <= 67108864) (hx2 : x.2.length <= 16777216) (q : QuadL) (hx : lineAt x.2 = .inl (some q)) (hm : q ∉ A) (hA : A.length < 1048576) :
  parseBody.wpIn (Fence.wide.inRound lr) (n - 1 - 1) Tryz.prog (ownPostG n1 (KpB w.heap.size gs (.cells #[.slice a l.length c] 25 (0, 0))) (PaI w g2 g3 gl gm gb n1) (PaX w g2 g3) (pre ++ [x]) W) { tmps := #[.slice a l.length c, undef, .pointer (some ⟨g2, 0, none⟩), .pointer (some ⟨g3, 0, none⟩), .pointer (some ⟨gl, 0, none⟩), .pointer (some ⟨gb, 0, none⟩), .int .i64 (x.1 : Int), .string (B x.2), undef, undef, undef, undef, undef, .slice a l.length c, .int .i64 (l.length : Int), .bool false, undef, .map (some gm), .slice a l.length c, .func (.func 69) #[] #[.pointer (some ⟨gs, 0, none⟩)], .int .i64 (x.1 : Int), .string (B x.2), undef, undef, undef, undef, undef, undef, undef, undef, undef, undef, undef, undef, undef, undef, undef, undef, undef, undef, undef, undef, undef, undef, undef, undef, undef, undef, undef, undef, undef, undef, undef, undef, undef, undef, undef, undef, undef, undef, undef], defers := [] } W := by
 obtain ⟨G1, G2, G3, G4, G5, G6, G7⟩ := G
 have lt := P.lt
 have hn1 : 1 <= n - 1 - 1 := by omega
 have LN0 := line_l x.2 W (hT.below P.bw) (hM.below P.bw) hx2
 obtain ⟨i0, hi, hz0, hz1, hz2⟩ := info_parts infoQ
 obtain ⟨va, vc, rfl, _, _⟩ := P.ql.at
 rw [hx] at LN0
 have LN := hid LN0
 have HRD : Hid (readP (pre ++ [x]) = .inl (A ++ [q])) := hid (readP_new P.rd hx hm)
 have HK := hid (keyOf_q (lineAt_wf hx))
 have HH : Hid (Go.Maps.has (setD A) (keyQ q) = false) := hid (by rw [has_setD (readP_good P.rd).2 (lineAt_wf hx)]; exact decide_eq_false hm)
 have eA : ((A.length : Int) == 1048576) = false := beq_eq_false_iff_ne.2 (by omega)
 have PP := hid P
 clear LN0 hT hM hx hm P
 have P := PP
 conv => arg 4; whnf
 gi_wp2_with (first
  | (refine ⟨trivial, ?_⟩; gi_at_call 38; refine (CallsIn.inRound lr (callsIn_wide.2 LN.out)).mono ?_; rintro e w3 ⟨rfl, hb3⟩; have P3 := hid (P.out.below hb3 (by omega) (by omega) P.out.rd); have B3 := hid hb3; have hbs := hb3.size; have c5 := P3.out.bm.cell; have l5 := P3.out.bm.lt; have c4 := P3.out.bl.cell; have l4 := P3.out.bl.lt; have BL := hid ((hb3.alloc hbs (.cells #[.int .i64 q.s.kind, .string (B q.s.text), .string (B q.s.type), .string (B q.s.lang), .int .i64 q.p.kind, .string (B q.p.text), .string (B q.p.type), .string (B q.p.lang), .int .i64 q.o.kind, .string (B q.o.text), .string (B q.o.type), .string (B q.o.lang), .int .i64 q.g.kind, .string (B q.g.text), .string (B q.g.type), .string (B q.g.lang)] 36)).alloc (by simp; omega) (.cells #[] 96)); clear hb3)
  | (refine wpListIn_load_quad rfl (.tmp 8) rfl w3.heap.size 0 rfl q (range_row (World.alloc_heap_new w3 _)) ?_)
  | (refine wpListIn_load_quad rfl (.tmp 8) rfl w3.heap.size 0 rfl q (range_row ((heap_alloc_old _ _ (by simp)).trans (World.alloc_heap_new w3 _))) ?_)
  | (gi_at_lookup; refine wpListIn_lookup_own_unit _ rfl _ _ 95 rfl 36 96 lawQ Tryz.underlying95 (zeroU _) gm A.length (setD A) rfl (P3.out.mp.alloc _) _ _ rfl HK.out ?_; rw [HH.out])
  | (gi_at_mapUpdate; go_loud (refine wpListIn_mapUpdate_own _ rfl _ _ _ 95 rfl 36 96 lawQ Tryz.underlying95 _ gm A.length _ rfl ((P3.out.mp.alloc _).alloc _) (by unfold maxLen; omega) _ _ _ rfl rfl HK.out (.agg []) [] unitElem_mk ?_; intro w4 hown4 hgrow4; have M4 := hid hown4; have R4 := hid hgrow4; have hs4 : w3.heap.size + 1 + 1 <= w4.heap.size := (by have h := hgrow4.size; simp at h; omega); have P4 := hid (P.out.below BL.out (by omega) (by omega) P.out.rd); have x4 := P4.out.bl.kept hgrow4 (by simp; omega); clear c4 l4; have c4 := x4.cell; have f4 := x4.frozen; have l4 := x4.lt; have X4 := hid x4; have O4 := hid (ownsRow_grown P4.out.ql hgrow4 (fun k hk e => by have h1 := own_base P4.out.ql k hk; have h2 := Option.some.inj e; omega)); have Q4 := hid ((hgrow4.block w3.heap.size (by simp; omega) (by simp; omega)).trans ((heap_alloc_old _ _ (by simp)).trans (World.alloc_heap_new w3 (.cells #[.int .i64 q.s.kind, .string (B q.s.text), .string (B q.s.type), .string (B q.s.lang), .int .i64 q.p.kind, .string (B q.p.text), .string (B q.p.type), .string (B q.p.lang), .int .i64 q.o.kind, .string (B q.o.text), .string (B q.o.type), .string (B q.o.lang), .int .i64 q.g.kind, .string (B q.g.text), .string (B q.g.type), .string (B q.g.lang)] 36)))); clear hown4 hgrow4 x4))
  | (refine wpListIn_load_quad rfl (.tmp 8) rfl w3.heap.size 0 rfl q (range_row (cs := quadC q) Q4.out) ?_)
  | (refine wpListIn_build1 rfl (.tmp 56) rfl q rfl ?_)
  | (gi_at_builtin; go_loud (refine wpListIn_append_own _ rfl _ _ 22 rfl n1 36 i0 _ 16 224 Tryz.underlying22 hi hz0 hz1 hz2 rfl (by decide) _ _ _ rfl (O4.out.alloc _) ⟨w4.heap.size, 0, none⟩ 1 1 (quadsC [q]) rfl rfl (cell_row w4 (quadsC [q]) _) (oneCell_quads [q]) (by unfold maxLen; omega) (by omega) (by simp; omega) ?_; intro v' w6 hown6 hgrow6 _; obtain ⟨g', cap', rfl⟩ := ownsRow_succ hown6; have R6 := hid hgrow6; have O6 := hid hown6; have x6 := (X4.out.alloc (.cells (quadsC [q]).toArray 36)).kept hgrow6 (own_ne (O4.out.alloc (.cells (quadsC [q]).toArray 36)) (by omega)); have c6 := x6.cell; have f6 := x6.frozen; have l6 := x6.lt; have X6 := hid x6; clear hown6 hgrow6 x6)))
 have hs6 : w4.heap.size + 1 <= w6.heap.size := (by have h := R6.out.size; simp at h; omega)
 have OA := O4.out.alloc (.cells (quadsC [q]).toArray 36)
 have KK : ∀ k, k < n1 -> k ≠ gl -> k ≠ gm -> (w6.setCell ⟨gl, 0, none⟩ (.slice (some ⟨g', 0, none⟩) (A.length + 1) cap')).heap[k]? = W.heap[k]? := fun k h1 h2 h3 => by
  rw [RowKit.Below.heap_setCell _ _ _ _ h2, R6.out.block k (by simp; omega) (own_ne OA h1), heap_alloc_old _ _ (by omega), R4.out.block k (by simp; omega) (by simp; omega)]
  exact BL.out.block k (by omega)
 have b1 := BL.out.mono (B' := w.heap.size) (by omega)
 have b2 := b1.grown R4.out (by simp; omega) (fun k e => by have := Option.some.inj e; omega)
 have b3 := b2.alloc (by omega) (.cells (quadsC [q]).toArray 36)
 have b4 := b3.grown R6.out (by simp; omega) (fun k e => by have := own_base OA k e; omega)
 have b5 := b4.setCell (p := ⟨gl, 0, none⟩) (by show w.heap.size <= gl; omega) (.slice (some ⟨g', 0, none⟩) (A.length + 1) cap')
 refine ⟨((((keeps_below BL.out).from n1).trans (KeepsFrom.of_grownBy R4.out (fun j e => by have := Option.some.inj e; omega))).trans ((KeepsOthers.alloc w4 _).from n1)).trans (((KeepsOthers.of_grownBy R6.out (fun j o hj ho => own_cells OA j o hj ho)).from n1).trans ((KeepsOthers.setCell w6 _ _).from n1)), ⟨b5, fun h => (KK gs (by omega) (by omega) (by omega)).trans h⟩, ⟨A ++ [q], _, ⟨HRD.out, (KK g2 (by omega) (by omega) (by omega)).trans P.out.b2, (KK g3 (by omega) (by omega) (by omega)).trans P.out.b3, X6.out.set _, ?_, ?_, (KK gb (by omega) (by omega) (by omega)).trans P.out.bm, (by simp; omega), P.out.bw.trans b5, fun e => by simp at e⟩⟩⟩
 ·have h := ownsRow_grown O6.out (grownBy_setCell' w6 gl (.slice (some ⟨g', 0, none⟩) (A.length + 1) cap')) (fun k hk e => by have h1 := own_base O6.out k hk; have h2 := Option.some.inj e; omega)
  unfold QOwn
  rw [List.length_append, List.length_singleton, quadsC_append]
  exact h
 ·have h := ((M4.out.alloc (.cells (quadsC [q]).toArray 36)).kept R6.out (own_ne OA (by omega))).setCell (a := ⟨gl, 0, none⟩) (by show gm ≠ gl; omega) (.slice (some ⟨g', 0, none⟩) (A.length + 1) cap')
  rw [List.length_append, List.length_singleton, setD_snoc]
  exact h
theorem paIn_new (w : World) (v : Value) : PaIn w (w.heap.size) (w.heap.size + 1) (w.heap.size + 1 + 1) (w.heap.size + 1 + 1 + 1) (w.heap.size + 1 + 1 + 1 + 1) (w.heap.size + 1 + 1 + 1 + 1 + 1 + 1) [] [] (.slice none 0 0) ((((((w.alloc (.cells #[.slice none 0 0] 22)).alloc (.cells #[.nilIface] 38)).alloc (.cells #[.slice none 0 0] 22)).alloc (.map #[] 0)).alloc (.cells #[.map (some (w.heap.size + 1 + 1 + 1))] 95)).alloc (.cells #[v] 25)) /\ ((((((w.alloc (.cells #[.slice none 0 0] 22)).alloc (.cells #[.nilIface] 38)).alloc (.cells #[.slice none 0 0] 22)).alloc (.map #[] 0)).alloc (.cells #[.map (some (w.heap.size + 1 + 1 + 1))] 95)).alloc (.cells #[v] 25)).heap[w.heap.size + 1 + 1 + 1 + 1 + 1]? = some (.cells #[v] 25 (0, 0)) := by
 have hb : Below w.heap.size w ((((((w.alloc (.cells #[.slice none 0 0] 22)).alloc (.cells #[.nilIface] 38)).alloc (.cells #[.slice none 0 0] 22)).alloc (.map #[] 0)).alloc (.cells #[.map (some (w.heap.size + 1 + 1 + 1))] 95)).alloc (.cells #[v] 25)) := ((((((Below.refl _ w).alloc (Nat.le_refl _) _).alloc (by simp) _).alloc (by simp; omega) _).alloc (by simp; omega) _).alloc (by simp; omega) _).alloc (by simp; omega) _
 have s1 : (w.alloc (.cells #[.slice none 0 0] 22)).heap.size = w.heap.size + 1 := by simp
 have s2 : ((w.alloc (.cells #[.slice none 0 0] 22)).alloc (.cells #[.nilIface] 38)).heap.size = w.heap.size + 1 + 1 := by simp
 have s3 : (((w.alloc (.cells #[.slice none 0 0] 22)).alloc (.cells #[.nilIface] 38)).alloc (.cells #[.slice none 0 0] 22)).heap.size = w.heap.size + 1 + 1 + 1 := by simp
 have x1 := Boxed.new w 22 (.slice none 0 0)
 have x2 := Boxed.new (w.alloc (.cells #[.slice none 0 0] 22)) 38 .nilIface
 have x3 := Boxed.new ((w.alloc (.cells #[.slice none 0 0] 22)).alloc (.cells #[.nilIface] 38)) 22 (.slice none 0 0)
 have h := World.ownsMap_made (((w.alloc (.cells #[.slice none 0 0] 22)).alloc (.cells #[.nilIface] 38)).alloc (.cells #[.slice none 0 0] 22)) Tryz.prog 36 (Go.unitElem (H := Unit))
 have x4 := Boxed.new ((((w.alloc (.cells #[.slice none 0 0] 22)).alloc (.cells #[.nilIface] 38)).alloc (.cells #[.slice none 0 0] 22)).alloc (.map #[] 0)) 95 (.map (some (w.heap.size + 1 + 1 + 1)))
 have x5 := Boxed.new (((((w.alloc (.cells #[.slice none 0 0] 22)).alloc (.cells #[.nilIface] 38)).alloc (.cells #[.slice none 0 0] 22)).alloc (.map #[] 0)).alloc (.cells #[.map (some (w.heap.size + 1 + 1 + 1))] 95)) 25 v
 rw [s1] at x2
 rw [s2] at x3
 rw [s3] at h
 rw [World.size_alloc, s3] at x4
 rw [World.size_alloc, World.size_alloc, s3] at x5
 have e3 := World.size_alloc
 exact ⟨⟨rfl, ((((x1.alloc _).alloc _).alloc _).alloc _).alloc _, (((x2.alloc _).alloc _).alloc _).alloc _, ((x3.alloc _).alloc _).alloc _, QOwn.nil _ _, (h.alloc _).alloc _, x4.alloc _, by simp, hb, fun _ => rfl⟩, x5⟩
theorem QFresh.form {base : Nat} {v : Value} {l : List QuadL} {w : World} (h : QFresh base v l w) : ∃ ad n cp, v = .slice ad n cp := by
 rcases h with ⟨_, rfl⟩ | ⟨g, _, _, rfl, _⟩
 ·exact ⟨none, 0, 0, rfl⟩
 ·exact ⟨_, _, _, rfl⟩
theorem QFresh.keep {b b' : Nat} {v : Value} {l : List QuadL} {w w' : World} (h : QFresh b v l w) (hb : b' <= b) (hs : w.heap.size <= w'.heap.size) (hk : ∀ k, b <= k -> k < w.heap.size -> w'.heap[k]? = w.heap[k]?) : QFresh b' v l w' := by
 rcases h with h | ⟨g, h1, h2, rfl, h3⟩
 ·exact .inl h
 ·refine .inr ⟨g, by omega, by omega, rfl, (qhold_iff w' g l).2 (fun j hj => ?_)⟩
  have := (qhold_iff w g l).1 h3 j hj
  have e := hk g h1 h2
  refine ⟨?_, ?_⟩
  ·rw [World.cell?_of_block e]; exact this.1
  ·simp only [World.frozen?] at this ⊢; rw [e]; exact this.2
theorem results_pa (tm : Array Value) (u : World) (g f : Nat) (x y : Value) {T T' : TypeId} (h2 : tm.getD 2 undef = .pointer (some ⟨g, 0, none⟩)) (h3 : tm.getD 3 undef = .pointer (some ⟨f, 0, none⟩)) (hx : Boxed u g T x) (hy : Boxed u f T' y) :
  (results Tryz.f25 tm).run Tryz.prog u = .ok (.tuple #[x, y]) u := by
 have c0 := hx.cell
 have c1 := hy.cell
 have hr : (Tryz.f25).results = #[.cell 2 22, .cell 3 38] := rfl
 rw [Array.getD_eq_getD_getElem?] at h2 h3
 simp [results, h2, h3, go_sem, c0, c1]
theorem err_keep {u u' : World} {ev : Value} {f : Nat × Int} {row : Option Nat} (h : ErrIs u ev (.inr f)) (hg : u.grownBy u' row) (hr : ∀ r, row = some r -> ∃ o : Obj, u.heap[r]? = some o /\ o.isCells = false) : ErrIs u' ev (.inr f) := by
 obtain ⟨b, rfl, e1, e2⟩ := h
 exact ⟨b, rfl, cell_kept' e1 hg hr, cell_kept' e2 hg hr⟩
def ParsePost (r : Nat) (w' : World) (e : Ending) : List QuadL ⊕ (Nat × Int) -> Prop
 | .inl s => ∃ v, e = .returned (.tuple #[v, .nilIface]) /\ QFresh r v s w'
 | .inr f => ∃ ev, e = .returned (.tuple #[.slice none 0 0, ev]) /\ ErrIs w' ev (.inr f)
set_option maxHeartbeats 4000000 in
theorem nqParse_big (l : List UInt8) (a : Option Addr) (c : Nat) (w : World) (hA : At w a (l.map U8)) (hc : l.length <= c) (hl : l.length <= 67108864) (hL : ∀ x ∈ linesL l 0, x.2.length <= 16777216) (hq : ∀ (pre : List (LineOf l)) (A : List QuadL), pre.length <= (linesL l 0).length -> readP (pre.map (·.1)) = .inl A -> A.length <= 1048576 /\ (pre.length < (linesL l 0).length -> A.length < 1048576)) (hT : TabAt w) (hM : MaxAt w) (hU : UtAt w) (hE : ErrType w) :
  Calls Tryz.prog 25 #[.slice a l.length c] w fun e w' => ParsePost w.heap.size w' e (parseF l) /\ Below w.heap.size w w' := by
 have e0 : decide ((67108864 : Int) < (l.length : Int)) = false := decide_eq_false (by omega)
 have hmm := @run_makeMap Tryz.prog
 have HA := hid hA
 have HTM := hid (And.intro hT (And.intro hM (And.intro hU hE)))
 have HL := hid hL
 have HQ := hid hq
 clear hA hT hM hU hE hL hq
 refine (callsIn_wide (n := 12)).1 ?_
 refine callsIn_of_wp_marks Tryz.func25 rfl trivial ?_ rfl
 simp only [Tryz.ntmps25, List.size_toArray, List.length_cons, List.length_nil, Nat.reduceAdd, Nat.reduceSub, Array.replicate_succ, Array.replicate_zero, List.push_toArray, List.append_toArray, List.nil_append, List.cons_append]
 gi_wp2_with (refine ⟨trivial, ?_⟩; gi_at_call 45; refine (lines_in _ a l.length c _).mono ?_; rintro e w2 ⟨rfl, rfl⟩)
 obtain ⟨P0, B0⟩ := paIn_new w (.slice a l.length c)
 have hsz : ((((((w.alloc (.cells #[.slice none 0 0] 22)).alloc (.cells #[.nilIface] 38)).alloc (.cells #[.slice none 0 0] 22)).alloc (.map #[] 0)).alloc (.cells #[.map (some (w.heap.size + 1 + 1 + 1))] 95)).alloc (.cells #[.slice a l.length c] 25)).heap.size = w.heap.size + 1 + 1 + 1 + 1 + 1 + 1 := by simp
 generalize hW0 : ((((((w.alloc (.cells #[.slice none 0 0] 22)).alloc (.cells #[.nilIface] 38)).alloc (.cells #[.slice none 0 0] 22)).alloc (.map #[] 0)).alloc (.cells #[.map (some (w.heap.size + 1 + 1 + 1))] 95)).alloc (.cells #[.slice a l.length c] 25)) = W0 at P0 B0 hsz ⊢
 clear hW0
 have G : PaG w.heap.size (w.heap.size) (w.heap.size + 1) (w.heap.size + 1 + 1) (w.heap.size + 1 + 1 + 1) (w.heap.size + 1 + 1 + 1 + 1) (w.heap.size + 1 + 1 + 1 + 1 + 1) W0.heap.size := ⟨by omega, by omega, by omega, by omega, by omega, by omega, by omega⟩
 rw [<- hsz] at P0
 refine wpIn_rangeFunc_ownG (ps := #[20, 21]) (encs := fun x : LineOf l => encL x.1) rfl (by omega) (gf := 69) (lb := #[.pointer (some ⟨w.heap.size + 1 + 1 + 1 + 1 + 1, 0, none⟩)]) rfl trivial (enters_of Tryz.func69 (by kernel_rfl) rfl)
  (lines_stops (12 - 1) (by omega) (w.heap.size + 1 + 1 + 1 + 1 + 1) w.heap.size l a c W0 P0.bw.size B0 hc (by omega) (fun W' h => ⟨HA.out.below (P0.bw.trans h), HTM.out.2.2.1.below (P0.bw.trans h), HTM.out.2.1.below (P0.bw.trans h)⟩)) kpB_t (kpB_b P0.bw.size rfl) (Below.refl _ _) (fun _ => rfl)
  (fun s W => PaI w (w.heap.size) (w.heap.size + 1) (w.heap.size + 1 + 1) (w.heap.size + 1 + 1 + 1) (w.heap.size + 1 + 1 + 1 + 1) W0.heap.size (s.map (·.1)) W) (fun k s W => PaX w (w.heap.size) (w.heap.size + 1) k (s.map (·.1)) W)
  (fun s X Y row hs hg hr => paI_own w _ _ _ _ _ _ _ G (s.map (·.1)) X Y row hs hg hr) (fun k s X Y row hs hg hr => paX_own w _ _ _ _ _ _ _ G k (s.map (·.1)) X Y row hs hg hr)
  ⟨[], _, P0⟩
  (fun x => { tmps := #[.slice a l.length c, undef, .pointer (some ⟨w.heap.size, 0, none⟩), .pointer (some ⟨w.heap.size + 1, 0, none⟩), .pointer (some ⟨w.heap.size + 1 + 1, 0, none⟩), .pointer (some ⟨w.heap.size + 1 + 1 + 1 + 1, 0, none⟩), .int .i64 (x.1.1 : Int), .string (B x.1.2), undef, undef, undef, undef, undef, .slice a l.length c, .int .i64 (l.length : Int), .bool false, undef, .map (some (w.heap.size + 1 + 1 + 1)), .slice a l.length c, .func (.func 69) #[] #[.pointer (some ⟨w.heap.size + 1 + 1 + 1 + 1 + 1, 0, none⟩)], .int .i64 (x.1.1 : Int), .string (B x.1.2), undef, undef, undef, undef, undef, undef, undef, undef, undef, undef, undef, undef, undef, undef, undef, undef, undef, undef, undef, undef, undef, undef, undef, undef, undef, undef, undef, undef, undef, undef, undef, undef, undef, undef, undef, undef, undef, undef, undef], defers := [] }) ?assign ?body ?done ?stop
 case assign =>
  intro lr x W K hK
  gi_wp2
  exact hK
 case body =>
  rintro lr pre x W ⟨A, v, P⟩ hlt
  have hx := linesL_mem l l.length 0 (by omega) x.1 x.2
  have hx1 : x.1.1 <= 67108864 := by omega
  have hx2 : x.1.2.length <= 16777216 := HL.out x.1 x.2
  have hA := HQ.out pre A (by omega) P.rd
  have hpost : ownPostG W0.heap.size (KpB w.heap.size (w.heap.size + 1 + 1 + 1 + 1 + 1) (.cells #[.slice a l.length c] 25 (0, 0))) (fun (s : List (LineOf l)) W => PaI w (w.heap.size) (w.heap.size + 1) (w.heap.size + 1 + 1) (w.heap.size + 1 + 1 + 1) (w.heap.size + 1 + 1 + 1 + 1) W0.heap.size (s.map (·.1)) W) (fun k (s : List (LineOf l)) W => PaX w (w.heap.size) (w.heap.size + 1) k (s.map (·.1)) W) (pre ++ [x]) W = ownPostG W0.heap.size (KpB w.heap.size (w.heap.size + 1 + 1 + 1 + 1 + 1) (.cells #[.slice a l.length c] 25 (0, 0))) (PaI w (w.heap.size) (w.heap.size + 1) (w.heap.size + 1 + 1) (w.heap.size + 1 + 1 + 1) (w.heap.size + 1 + 1 + 1 + 1) W0.heap.size) (PaX w (w.heap.size) (w.heap.size + 1)) (pre.map (·.1) ++ [x.1]) W := by
   have hm : (pre ++ [x]).map (·.1) = pre.map (·.1) ++ [x.1] := by rw [List.map_append]; rfl
   funext e a' W'
   cases e <;> simp only [ownPostG, hm]
  rw [hpost]
  obtain ⟨y, hy⟩ : ∃ y, lineAt x.1.2 = y := ⟨_, rfl⟩
  rcases y with (_ | q) | ⟨p, e⟩
  ·exact round_none 12 (by omega) l a c w _ _ _ _ _ _ _ G HTM.out.1 HTM.out.2.1 lr _ x.1 A v W P hx1 hx2 hy
  ·by_cases hq2 : q ∈ A
   ·exact round_old 12 (by omega) l a c w _ _ _ _ _ _ _ G HTM.out.1 HTM.out.2.1 lr _ x.1 A v W P hx1 hx2 q hy hq2
   ·exact round_new 12 (by omega) l a c w _ _ _ _ _ _ _ G HTM.out.1 HTM.out.2.1 lr _ x.1 A v W P hx1 hx2 q hy hq2 (hA.2 (by omega))
  ·exact round_bad 12 (by omega) l a c w _ _ _ _ _ _ _ G HTM.out.1 HTM.out.2.1 lr _ x.1 A v W P hx1 hx2 p e HTM.out.2.2.2 hy
 case done =>
  rintro D ys W hD hS ⟨A, v, P⟩ hK
  have hgood := readP_good P.rd
  have hA := (HQ.out ys A (by have := congrArg List.length hS; rw [List.length_map] at this; omega) P.rd).1
  have HPO : Hid (parseF l = .inl (setQ A)) := hid (parse_ok (by rw [<- hS]; exact P.rd))
  have SR := hid (termSort_l A v W P.ql.view P.nl hgood.1 (by omega))
  have c4 := P.bl.cell
  have l4 := P.bl.lt
  have hlt := P.lt
  have PP := hid P
  have HK := hid hK
  clear hgood hA hS P hK
  have P := PP
  gi_wp2_with (refine ⟨trivial, ?_⟩; gi_at_call 47; refine (callsIn_wide.2 SR.out).mono ?_; rintro e w3 ⟨v', rfl, hF, hb3⟩; obtain ⟨ad, nn, cp, rfl⟩ := hF.form; have HF := hid hF; have B3 := hid hb3; have x2 := boxed_below' P.out.b2 hb3; have x3 := boxed_below' P.out.b3 hb3; have k2 := x2.cell; have k3 := x3.cell; have f2 := x2.frozen; have f3 := x3.frozen; have l2 := x2.lt; have l3 := x3.lt; have X2 := hid x2; have X3 := hid x3; have hbs := hb3.size; have HK3 := hid ((hb3.block D (Array.getElem?_eq_some_iff.1 HK.out).1).trans HK.out); clear hF hb3 x2 x3)
  have hK5 := (KeepsOthers.setCell (w3.setCell ⟨w.heap.size, 0, none⟩ (.slice ad nn cp)) ⟨w.heap.size + 1, 0, none⟩ .nilIface).same D _ ((KeepsOthers.setCell w3 ⟨w.heap.size, 0, none⟩ (.slice ad nn cp)).same D _ HK3.out rfl) rfl
  refine ⟨by simp, .inl ⟨_, _, rfl, run_takeDeferred hK5, ?_⟩⟩
  have hDl : D < W.heap.size := (Array.getElem?_eq_some_iff.1 HK.out).1
  have y2 := ((X2.out.set (.slice ad nn cp)).other (B' := w.heap.size + 1) (by omega) .nilIface).kept (grownBy_putObj' _ D (.deferred none)) (by simp; omega)
  have y3 := ((X3.out.other (B' := w.heap.size) (by omega) (.slice ad nn cp)).set .nilIface).kept (grownBy_putObj' _ D (.deferred none)) (by simp; omega)
  refine ⟨_, results_pa _ _ _ _ _ _ rfl rfl y2 y3, ?_, ?_⟩
  ·rw [HPO.out]
   refine ⟨_, rfl, HF.out.keep (by omega) (by simp) (fun k h1 h2 => ?_)⟩
   rw [(grownBy_putObj' _ D (.deferred none)).block k (by simp; omega) (by simp; omega), RowKit.Below.heap_setCell _ _ _ _ (by show k ≠ w.heap.size + 1; omega), RowKit.Below.heap_setCell _ _ _ _ (by show k ≠ w.heap.size; omega)]
  ·have b1 := (P.out.bw.trans (B3.out.mono (by omega))).setCell (p := ⟨w.heap.size, 0, none⟩) (Nat.le_refl _) (.slice ad nn cp)
   have b2 := b1.setCell (p := ⟨w.heap.size + 1, 0, none⟩) (by show w.heap.size <= w.heap.size + 1; omega) .nilIface
   exact b2.grown (grownBy_putObj' _ D (.deferred none)) (by simp; omega) (fun k e => by have := Option.some.inj e; omega)
 case stop =>
  rintro D k pre W hD hSp ⟨rfl, p, n, ev, h1, h2, h3, h4, h5⟩ hK
  have HPO : Hid (parseF l = .inr (p, n)) := hid (parse_bad (readP_prefix h1 hSp))
  have H2 := hid h2
  have H3 := hid h3
  have H4 := hid h4
  have H5 := hid h5
  have HK := hid hK
  clear h1 h2 h3 h4 h5 hK
  gi_wp2_with fail
  refine ⟨by simp, .inl ⟨_, _, rfl, run_takeDeferred HK.out, ?_⟩⟩
  have hr : ∀ r, some D = some r -> ∃ o : Obj, W.heap[r]? = some o /\ o.isCells = false := fun r e => by cases e; exact ⟨_, HK.out, rfl⟩
  have y2 := H2.out.kept (grownBy_putObj' _ D (.deferred none)) (by simp; omega)
  have y3 := H3.out.kept (grownBy_putObj' _ D (.deferred none)) (by simp; omega)
  refine ⟨_, results_pa _ _ _ _ _ _ rfl rfl y2 y3, ?_, ?_⟩
  ·rw [HPO.out]
   exact ⟨_, rfl, err_keep H4.out (grownBy_putObj' _ D (.deferred none)) hr⟩
  ·exact H5.out.grown (grownBy_putObj' _ D (.deferred none)) H5.out.size (fun k e => by have := Option.some.inj e; omega)
theorem nqParse_l (l : List UInt8) (a : Option Addr) (c : Nat) (w : World) (hA : At w a (l.map U8)) (hc : l.length <= c) (hl : l.length <= 16777216) (hq : (linesL l 0).length <= 1048576) (hT : TabAt w) (hM : MaxAt w) (hU : UtAt w) (hE : ErrType w) :
  Calls Tryz.prog 25 #[.slice a l.length c] w fun e w' => ParsePost w.heap.size w' e (parseF l) /\ Below w.heap.size w w' :=
 nqParse_big l a c w hA hc (by omega) (fun x hx => by have := (linesL_mem l l.length 0 (by omega) x hx).2; omega) (fun pre A hp hr => by have h := readP_length hr; rw [List.length_map] at h; exact ⟨by omega, fun h2 => by omega⟩) hT hM hU hE
end Go.Proofs.YtdegonmkikfghaaGreatDoor
