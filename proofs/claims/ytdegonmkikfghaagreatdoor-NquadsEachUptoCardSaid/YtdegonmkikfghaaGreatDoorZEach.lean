/-
  patch.Each and the function that it hands out: the contract of an iterator. By an AI agent.
-/
import Derived.RangeFuncNested
import Derived.RangeFuncBound
import Derived.RangeFuncCalls
import Derived.RangeFuncLeaves
import Derived.Shelf.Abstract
import Derived.Shelf.RegionOpen
import Derived.OwnWalkIn
import Derived.TacticsInMore
import Derived.LoopNIn
import Derived.LoopIn
import Derived.Test.YtdegonmkikfghaaGreatDoorZApp
import Derived.Test.YtdegonmkikfghaaGreatDoorZTerm0
import Derived.WalkKit
import Derived.Sort.BigQuietIn
import Derived.Lib.Hide
import Derived.Test.YtdegonmkikfghaaGreatDoorZRangeM
import Derived.Test.YtdegonmkikfghaaGreatDoorZRefSort
import Derived.Test.YtdegonmkikfghaaGreatDoorZSeen
import Derived.Lib.QuietBelow
namespace Go.Proofs.YtdegonmkikfghaaGreatDoor
open Go.RowKit Go.Shelf
set_option maxRecDepth 100000
attribute [local go_sem] Oper.semAt_some

/-- a quad as one value -/
abbrev qvE (q : QuadL) : Value := .agg #[.int .i64 q.s.kind, .string (B q.s.text), .string (B q.s.type), .string (B q.s.lang), .int .i64 q.p.kind, .string (B q.p.text), .string (B q.p.type), .string (B q.p.lang), .int .i64 q.o.kind, .string (B q.o.text), .string (B q.o.type), .string (B q.o.lang), .int .i64 q.g.kind, .string (B q.g.text), .string (B q.g.type), .string (B q.g.lang)]
end Go.Proofs.YtdegonmkikfghaaGreatDoor

/-
  A region that draws its order within a round of a range over a function: walked once, in the order of the text, where its operations only read. Blocks of several cells that a loop over an iterator keeps. No program in sight. By an AI agent.
-/
namespace Go.Proofs.YtdegonmkikfghaaGreatDoor
open Go.RowKit Go.Shelf
set_option maxRecDepth 100000
section
variable {G : Fence} {n : Nat} {P : Program} {ops : Array Oper} {l : Nat}
theorem oper_round {Q : Exit → Act → World → Prop} (_hG : G.round = none) {o : Oper} (hd : ∀ c, o.op ≠ .defer c) {a : Act} {w : World} {K : Act → World → Prop} (h : o.wpIn G n P a w K Q) : o.wpIn (G.inRound l) n P a w K Q := by
  obtain ⟨h1, h2⟩ := h
  refine ⟨h1, ?_⟩
  rw [Oper.semAt_plain _ _ _ hd] at h2 ⊢
  exact h2
theorem ops_round {Q : Exit → Act → World → Prop} (hG : G.round = none) (hd : ∀ o ∈ ops.toList, ∀ c, o.op ≠ .defer c) : ∀ (is : List Nat) (a : Act) (w : World), wpOpsIn G n P ops Q is a w → wpOpsIn (G.inRound l) n P ops Q is a w
  | [], _, _, h => h
  | i :: rest, a, w, h => by
    have ih := ops_round (Q := Q) hG hd rest
    unfold wpOpsIn at h ⊢
    cases ho : ops[i]? with
    | none => rw [ho] at h; exact ih _ _ h
    | some o =>
      rw [ho] at h
      have hmem : o ∈ ops.toList := by
        obtain ⟨hi, rfl⟩ := Array.getElem?_eq_some_iff.1 ho
        exact Array.getElem_mem_toList hi
      simp only at h ⊢
      split
      · next hw =>
        rw [if_pos hw] at h
        exact Oper.wpIn_mono (fun a w => ih a w) (oper_round hG (hd o hmem) h)
      · next hw =>
        rw [if_neg hw] at h
        exact ⟨h.1, ih _ _ h.2⟩
theorem region_any_round {Q : Exit → Act → World → Prop} (hG : G.round = none) {id : Nat} {a : Act} {w : World} (hd : ∀ o ∈ ops.toList, ∀ c, o.op ≠ .defer c) (hm : P.follows .mixedOrders = true)
    (h : wpAnyIn G n P .any ops Q ops.size (Array.replicate ops.size false) a { w with drawn := w.drawn + 1 }) : (Code.region id ops true).wpIn (G.inRound l) n P Q a w :=
  wpIn_region_draw fun t => by
    simp only [Region.schedule, hm, Bool.true_or, if_true]
    exact ops_round hG hd _ _ _ (wpAnyIn_sound ops.size t _ a _ h)
/-- **ONE WALK OF THE LEXICAL ORDER SERVES EVERY ORDER, WITHIN A ROUND** -/
theorem region_quiet_round {C : World → Prop} {Q : Exit → Act → World → Prop} (hG : G.round = none) {id : Nat} {a : Act} {w : World} (hd : ∀ o ∈ ops.toList, ∀ c, o.op ≠ .defer c) (hm : P.follows .mixedOrders = true) (hB : Region.lexB .any ops = true) (hC : C { w with drawn := w.drawn + 1 })
    (h : wpQuietIn G n P ops C (fun a' => ∀ w', C w' → Q .normal a' w') ops.toList a) : (Code.region id ops true).wpIn (G.inRound l) n P Q a w := by
  simp only [Region.lexB, Bool.and_eq_true] at hB
  refine region_any_round hG hd hm (wpAnyIn_of_quiet (Q := fun a' => ∀ w', C w' → Q .normal a' w') hG (fun _ w' hw' h => h w' hw') _ _ _ _ hC ?_)
  have := wpAnyQIn_lex (F := G) (n := n) (C := C) (md := .any) hB.1 ops.toList 0 (Array.replicate ops.size false) a (by simp) (by simpa using hB.2) h
  simpa using this
def noDefer (o : Oper) : Bool := match o.op with | .defer _ => false | _ => true
theorem noDefer_all {l : List Oper} (h : l.all noDefer = true) : ∀ o ∈ l.toArray.toList, ∀ c, o.op ≠ .defer c := by
  intro o ho c he
  have := List.all_eq_true.1 h o (by simpa using ho)
  unfold noDefer at this
  rw [he] at this
  cases this
theorem region_quiet_round_lit {Q : Exit → Act → World → Prop} {id : Nat} {a : Act} {w : World} {m : List Oper} (hG : G.round = none) (hd : m.all noDefer = true) (hm : P.follows .mixedOrders = true) (hB : Region.lexB .any m.toArray = true)
    (h : wpQuietIn G n P m.toArray (fun w' => ∃ n, w' = w.drewN n) (fun a' => ∀ w', (∃ n, w' = w.drewN n) → Q .normal a' w') m a) : (Code.region id m.toArray true).wpIn (G.inRound l) n P Q a w :=
  region_quiet_round (C := fun w' => ∃ n, w' = w.drewN n) hG (noDefer_all hd) hm hB ⟨1, rfl⟩ (by simpa using h)
end
/-- a block of cells that lets itself be written -/
def BoxN (W : World) (B : Nat) (t : TypeId) (cs : Array Value) : Prop := W.heap[B]? = some (.cells cs t (0, 0))
theorem BoxN.lt {W : World} {B : Nat} {t : TypeId} {cs : Array Value} (h : BoxN W B t cs) : B < W.heap.size := (Array.getElem?_eq_some_iff.1 h).1
theorem BoxN.cell {W : World} {B : Nat} {t : TypeId} {cs : Array Value} (h : BoxN W B t cs) (j : Nat) (v : Value) (hj : cs[j]? = some v) : W.cell? ⟨B, j, none⟩ = some v := by simp [World.cell?, show W.heap[B]? = _ from h, hj]
theorem BoxN.kept {W W' : World} {row : Option Nat} {B : Nat} {t : TypeId} {cs : Array Value} (h : BoxN W B t cs) (hg : W.grownBy W' row) (hne : some B ≠ row) : BoxN W' B t cs := (hg.block B h.lt hne).trans h
theorem BoxN.below {W W' : World} {n B : Nat} {t : TypeId} {cs : Array Value} (h : BoxN W B t cs) (hb : Below n W W') (hB : B < n) : BoxN W' B t cs := (hb.block B hB).trans h
theorem BoxN.new (W : World) (t : TypeId) (cs : Array Value) : BoxN (W.alloc (.cells cs t)) W.heap.size t cs := World.alloc_heap_new W _
theorem BoxN.alloc {W : World} {B : Nat} {t : TypeId} {cs : Array Value} (h : BoxN W B t cs) (o : Obj) : BoxN (W.alloc o) B t cs := h.kept (World.grownBy_alloc W o none) (by simp)
end Go.Proofs.YtdegonmkikfghaaGreatDoor

/-
  Quads compared: what != answers. By an AI agent.
-/
namespace Go.Proofs.YtdegonmkikfghaaGreatDoor
open Go.RowKit
set_option maxRecDepth 100000
set_option maxHeartbeats 1000000 in
theorem neq_q (p q : QuadL) (w : World) : (binOp .neq 36 (qvE p) (qvE q)).run Tryz.prog w = .ok (.bool (!decide (p = q))) w := by
  obtain ⟨⟨k1, a1, b1, c1⟩, ⟨k2, a2, b2, c2⟩, ⟨k3, a3, b3, c3⟩, ⟨k4, a4, b4, c4⟩⟩ := p
  obtain ⟨⟨l1, d1, e1, f1⟩, ⟨l2, d2, e2, f2⟩, ⟨l3, d3, e3, f3⟩, ⟨l4, d4, e4, f4⟩⟩ := q
  go_simp
  by_cases h : k1 = l1
  case neg => rw [if_neg h]; simp [h]
  subst h
  rw [if_pos rfl]
  by_cases h : a1 = d1
  case neg => rw [if_neg h]; simp [h]
  subst h
  rw [if_pos rfl]
  by_cases h : b1 = e1
  case neg => rw [if_neg h]; simp [h]
  subst h
  rw [if_pos rfl]
  by_cases h : c1 = f1
  case neg => rw [if_neg h]; simp [h]
  subst h
  rw [if_pos rfl]
  by_cases h : k2 = l2
  case neg => rw [if_neg h]; simp [h]
  subst h
  rw [if_pos rfl]
  by_cases h : a2 = d2
  case neg => rw [if_neg h]; simp [h]
  subst h
  rw [if_pos rfl]
  by_cases h : b2 = e2
  case neg => rw [if_neg h]; simp [h]
  subst h
  rw [if_pos rfl]
  by_cases h : c2 = f2
  case neg => rw [if_neg h]; simp [h]
  subst h
  rw [if_pos rfl]
  by_cases h : k3 = l3
  case neg => rw [if_neg h]; simp [h]
  subst h
  rw [if_pos rfl]
  by_cases h : a3 = d3
  case neg => rw [if_neg h]; simp [h]
  subst h
  rw [if_pos rfl]
  by_cases h : b3 = e3
  case neg => rw [if_neg h]; simp [h]
  subst h
  rw [if_pos rfl]
  by_cases h : c3 = f3
  case neg => rw [if_neg h]; simp [h]
  subst h
  rw [if_pos rfl]
  by_cases h : k4 = l4
  case neg => rw [if_neg h]; simp [h]
  subst h
  rw [if_pos rfl]
  by_cases h : a4 = d4
  case neg => rw [if_neg h]; simp [h]
  subst h
  rw [if_pos rfl]
  by_cases h : b4 = e4
  case neg => rw [if_neg h]; simp [h]
  subst h
  rw [if_pos rfl]
  by_cases h : c4 = f4
  case neg => rw [if_neg h]; simp [h]
  subst h
  rw [if_pos rfl]
  simp
end Go.Proofs.YtdegonmkikfghaaGreatDoor

/-
  tesseralaw09.NquadsEach: what a pass through nquads.Each holds; a round's tail and its two heads. By an AI agent.
-/
namespace Go.Proofs.YtdegonmkikfghaaGreatDoor
open Go.RowKit Go.Shelf Go.Sort
set_option maxRecDepth 1000000
attribute [local go_sem] Oper.semAt_some wide_fn

theorem boxed_belowL {W W' : World} {n B : Nat} {t : TypeId} {v : Value} (h : Boxed W B t v) (hb : Below n W W') (hB : B < n) : Boxed W' B t v := (hb.block B hB).trans h
def blockBody : Code → Code × Code
  | .block _ (.seq a b) => (a, b)
  | _ => (.skip, .skip)
noncomputable def eachCode : Code := ((Tryz.f5.body.bind firstRangeE).getD .skip)
noncomputable def eachHead : Code := (blockBody ((rangePartsE eachCode).getD (.skip, .skip)).2).1
noncomputable def eachTail : Code := (blockBody ((rangePartsE eachCode).getD (.skip, .skip)).2).2
/-- what a pass holds -/
structure EpAt (l : List UInt8) (W0 : World) (n0 g4 g5 g6 g8 g10 g11 g12 g13 g14 gE : Nat) (vq : Value) (x y st inn : Int) (kk : Nat) : Prop where
  b4 : Boxed W0 g4 3 (.int .i64 st)
  b5 : Boxed W0 g5 3 (.int .i64 inn)
  b8 : Boxed W0 g8 22 vq
  b10 : BoxN W0 g10 42 #[.int .i64 x, .int .i64 y]
  b11 : Boxed W0 g11 3 (.int .i64 (countE l : Int))
  b12 : Boxed W0 g12 55 (.func (.func 44) #[] #[.pointer (some ⟨gE, 0, none⟩)])
  b13 : Boxed W0 g13 3 (.int .i64 (kk : Int))
  lt : g4 < n0 ∧ g5 < n0 ∧ g8 < n0 ∧ g10 < n0 ∧ g11 < n0 ∧ n0 ≤ g12 ∧ g12 < g14 ∧ n0 ≤ g13 ∧ g13 < g14 ∧ g14 < W0.heap.size ∧ g6 < n0
  q : ∀ V, Below n0 W0 V → QView V vq (wantE l)
  f : faultE (errE l) = .agg #[.int .i64 x, .int .i64 y]
  len : (wantE l).length ≤ 1048576
  st : -9223372036854775808 ≤ st ∧ st ≤ 9223372036854775807
  seq : ∀ V, Below n0 W0 V → ∀ n, 4 ≤ n → SeqM Fence.wide n Tryz.prog 44 #[.pointer (some ⟨gE, 0, none⟩)] encE (fun m => KpM n0 m) (EachR l) (fun xs => xs.length = countE l) (fun xs => xs.length ≤ countE l) (countE l) V
theorem countE_few {l : List UInt8} (h : (wantE l).length ≤ 1048576) : countE l ≤ 1048577 := by unfold countE; split <;> omega
/-- between two rounds -/
def EpI (W0 : World) (g14 : Nat) (pre : List (QuadL × Value)) (V : World) : Prop := Boxed V g14 3 (.int .i64 (pre.length : Int)) ∧ Below g14 W0 V
/-- a round has left -/
def EpX (W0 : World) (g14 : Nat) (st : Int) (kk : Nat) (d : Code) (pre : List (QuadL × Value)) (V : World) : Prop := d = .exit 2 ∧ kk = 0 ∧ ((pre.length : Int) == wrap64 (st + 1)) = true ∧ Boxed V g14 3 (.int .i64 (pre.length : Int)) ∧ Below g14 W0 V
theorem epI_own (W0 : World) (g14 : Nat) (h : g14 ≤ W0.heap.size) : OwnFrom W0.heap.size (EpI W0 g14) :=
  OwnFrom.and (Own.from (boxed_own g14 3 (fun pre : List (QuadL × Value) => .int .i64 (pre.length : Int))) _) (ownFrom_below h h)
theorem epX_own (W0 : World) (g14 : Nat) (st : Int) (kk : Nat) (h : g14 ≤ W0.heap.size) (d : Code) : OwnFrom W0.heap.size (EpX W0 g14 st kk d) := by
  intro pre X Y row hs hg hr
  obtain ⟨h1, h2, h3, h4, h5⟩ := hs
  exact ⟨h1, h2, h3, Own.from (boxed_own g14 3 (fun pre : List (QuadL × Value) => .int .i64 (pre.length : Int))) _ pre X Y row h4 hg hr, ownFrom_below h h pre X Y row h5 hg hr⟩
theorem ep_end {W0 V2 W1 : World} {n0 g14 m : Nat} {pre : List (QuadL × Value)} {z : QuadL × Value} (hem : pre.length = m) (hb : Boxed W1 g14 3 (.int .i64 (m : Int))) (hB : Below g14 W0 W1) (hV : Below V2.heap.size V2 W1) (h14 : g14 < W0.heap.size) (hn : n0 ≤ g14) (hs : W0.heap.size + 2 ≤ V2.heap.size) :
    KeepsFrom W0.heap.size V2 (W1.setCell ⟨g14, 0, none⟩ (.int .i64 ((m : Int) + 1))) ∧ KpM n0 (W0.heap.size + 2) V2 (W1.setCell ⟨g14, 0, none⟩ (.int .i64 ((m : Int) + 1))) ∧ EpI W0 g14 (pre ++ [z]) (W1.setCell ⟨g14, 0, none⟩ (.int .i64 ((m : Int) + 1))) := by
  have e : ((pre ++ [z]).length : Int) = (m : Int) + 1 := by simp [hem]
  refine ⟨((keeps_belowE hV).from _).trans ((KeepsOthers.setCell _ _ _).from _), ⟨(hV.mono (by omega)).setCell (p := ⟨g14, 0, none⟩) hn _, fun k h1 h2 => ?_⟩, ?_, hB.setCell (p := ⟨g14, 0, none⟩) (Nat.le_refl _) _⟩
  · rw [RowKit.Below.heap_setCell _ _ _ _ (by show k ≠ g14; omega)]
    exact hV.block k h2
  · rw [e]
    exact hb.set _
theorem ep_break {W0 V2 W1 : World} {n0 g14 m kk : Nat} {st : Int} {pre : List (QuadL × Value)} {z : QuadL × Value} (hem : pre.length = m) (hb : Boxed W1 g14 3 (.int .i64 (m : Int))) (hB : Below g14 W0 W1) (hV : Below V2.heap.size V2 W1) (h14 : g14 < W0.heap.size) (hn : n0 ≤ g14) (hs : W0.heap.size + 2 ≤ V2.heap.size) (h0 : kk = 0) (hst : ((m : Int) + 1 == wrap64 (st + 1)) = true) :
    KeepsFrom W0.heap.size V2 (W1.setCell ⟨g14, 0, none⟩ (.int .i64 ((m : Int) + 1))) ∧ KpM n0 (W0.heap.size + 2) V2 (W1.setCell ⟨g14, 0, none⟩ (.int .i64 ((m : Int) + 1))) ∧ EpX W0 g14 st kk (.exit 2) (pre ++ [z]) (W1.setCell ⟨g14, 0, none⟩ (.int .i64 ((m : Int) + 1))) := by
  obtain ⟨h1, h2, h3⟩ := ep_end (z := z) hem hb hB hV h14 hn hs
  have e : ((pre ++ [z]).length : Int) = (m : Int) + 1 := by simp [hem]
  exact ⟨h1, h2, rfl, h0, by rw [e]; exact hst, h3.1, h3.2⟩
set_option maxHeartbeats 8000000 in
theorem ep_tail (n : Nat) (hn : 9 ≤ n) (l : List UInt8) (W0 : World) (n0 g4 g5 g6 g8 g10 g11 g12 g13 g14 gE : Nat) (vq : Value) (x y st inn : Int) (kk : Nat) (PA : EpAt l W0 n0 g4 g5 g6 g8 g10 g11 g12 g13 g14 gE vq x y st inn kk)
    (y0 y1 y2 y3 y7 y9 y15 y16 y17 y18 y19 y20 y21 y22 y23 y24 y25 y26 y27 y28 y29 y30 y31 y32 y33 y34 y35 y36 y37 y38 y39 y40 y41 y42 y43 y44 y45 y46 y47 y48 y49 y50 y51 y52 y53 y54 y55 y56 y57 y58 y59 y60 y61 y62 y63 y64 y65 y66 y67 y68 y69 y70 y71 y72 y73 y74 y75 y76 y77 y78 y79 y80 y81 y82 y83 y84 y85 y86 y87 y88 y89 y90 y91 y92 y93 y94 y95 y96 y97 y98 y99 y100 y101 y102 y103 y104 y105 y106 y107 y108 y109 y110 y111 y112 y113 y114 y115 y116 y117 y118 y119 : Value) (lr : Nat) (pre : List (QuadL × Value)) (z : QuadL × Value) (V2 WQ : World) (hr : ∃ r, WQ.heap[lr]? = some (.loop r)) (hI : EpI W0 g14 pre WQ) (hV : Below V2.heap.size V2 WQ) (hs : W0.heap.size + 2 ≤ V2.heap.size) (hlt : pre.length < countE l) :
    eachTail.wpIn (Fence.wide.inRound lr) (n - 1 - 1) Tryz.prog (Exit.inBlock 3 (postM W0.heap.size (KpM n0 (W0.heap.size + 2)) (EpI W0 g14) (EpX W0 g14 st kk) (pre ++ [z]) V2)) { tmps := #[y0, y1, y2, y3, .pointer (some ⟨g4, 0, none⟩), .pointer (some ⟨g5, 0, none⟩), .pointer (some ⟨g6, 0, none⟩), y7, .pointer (some ⟨g8, 0, none⟩), y9, .pointer (some ⟨g10, 0, none⟩), .pointer (some ⟨g11, 0, none⟩), .pointer (some ⟨g12, 0, none⟩), .pointer (some ⟨g13, 0, none⟩), .pointer (some ⟨g14, 0, none⟩), y15, y16, y17, y18, y19, y20, y21, y22, y23, y24, y25, y26, y27, y28, y29, y30, y31, y32, y33, y34, y35, y36, y37, y38, y39, y40, y41, y42, y43, y44, y45, y46, y47, y48, y49, y50, y51, y52, y53, y54, y55, y56, y57, y58, y59, y60, y61, y62, y63, y64, y65, y66, y67, y68, y69, y70, y71, y72, y73, y74, y75, y76, y77, y78, y79, y80, y81, y82, y83, y84, y85, y86, y87, y88, y89, y90, y91, y92, y93, y94, y95, y96, y97, y98, y99, y100, y101, y102, y103, y104, y105, y106, y107, y108, y109, y110, y111, y112, y113, y114, y115, y116, y117, y118, y119], defers := [] } WQ := by
  obtain ⟨hb14, hB⟩ := hI
  obtain ⟨h4, h5, h8, h10, h11, hn12, h12, hn13, h13, h14, h6⟩ := PA.lt
  have hcnt := countE_few PA.len
  have hVs := hV.size
  obtain ⟨m, em⟩ : ∃ m, pre.length = m := ⟨_, rfl⟩
  rw [em] at hb14 hlt
  have c14 := hb14.cell
  have f14 := hb14.frozen
  have c5 := (boxed_belowL PA.b5 hB (by omega)).cell
  have c11 := (boxed_belowL PA.b11 hB (by omega)).cell
  have c12 := (boxed_belowL PA.b12 hB (by omega)).cell
  have c13 := (boxed_belowL PA.b13 hB (by omega)).cell
  have c4 := (boxed_belowL PA.b4 hB (by omega)).cell
  have l14 : g14 < WQ.heap.size := by omega
  have l13 : g13 < WQ.heap.size := by omega
  have l12 : g12 < WQ.heap.size := by omega
  have l11 : g11 < WQ.heap.size := by omega
  have l4 : g4 < WQ.heap.size := by omega
  have l5 : g5 < WQ.heap.size := by omega
  have ne13 : g13 ≠ g14 := by omega
  have ne12 : g12 ≠ g14 := by omega
  have ne11 : g11 ≠ g14 := by omega
  have ne4 : g4 ≠ g14 := by omega
  have ne5 : g5 ≠ g14 := by omega
  have hm2 : m < 4611686018427387904 := by omega
  have hn2 : 1 ≤ n - 1 - 1 := by omega
  have HPA := Lib.hid PA
  have HB1 := Lib.hid hb14
  have HBB := Lib.hid hB
  have HVV := Lib.hid hV
  have HEM := Lib.hid em
  have H14 := Lib.hid h14
  have HN := Lib.hid (show n0 ≤ g14 by omega)
  have HS := Lib.hid hs
  have HR := Lib.hid hr
  have HLS := Lib.hid (show W0.heap.size + 2 ≤ WQ.heap.size by omega)
  have HCN := Lib.hid hcnt
  clear PA hb14 hB hV em h14 hs hr hlt hcnt h4 h5 h6 h8 h10 h11 hn12 h12 hn13 h13 hVs
  conv => arg 4; whnf
  cases q84 : ((m : Int) == inn) with
  | false =>
    gi_wp2_with fail
    all_goals (first | exact ep_break HEM.out HB1.out HBB.out HVV.out H14.out HN.out HS.out (by assumption) (by assumption) | exact ep_end HEM.out HB1.out HBB.out HVV.out H14.out HN.out HS.out)
  | true =>
    gi_wp2_with fail
    obtain ⟨r, hr⟩ := HR.out
    have hr' : (WQ.alloc (.cells #[.int .i64 0] 3)).heap[lr]? = some (.loop r) := (Below.heap_alloc WQ _ lr (Array.getElem?_eq_some_iff.1 hr).1).trans hr
    have bJ := Boxed.new WQ 3 (.int .i64 0)
    have bI : Boxed (WQ.alloc (.cells #[.int .i64 0] 3)) g14 3 (.int .i64 (m : Int)) := HB1.out.alloc _
    have hWA : Below WQ.heap.size WQ (WQ.alloc (.cells #[.int .i64 0] 3)) := (Below.refl _ _).alloc (Nat.le_refl _) _
    have hsz : (WQ.alloc (.cells #[.int .i64 0] 3)).heap.size = WQ.heap.size + 1 := by simp
    obtain ⟨WA, hWW⟩ : ∃ WA, WQ.alloc (.cells #[.int .i64 0] 3) = WA := ⟨_, rfl⟩
    rw [hWW] at hr' bJ bI hWA hsz ⊢
    clear hWW
    have hLS := HLS.out
    have hNN := HN.out
    have h14 := H14.out
    have hB0A : Below n0 W0 WA := (HBB.out.mono HN.out).trans (hWA.mono (by omega))
    refine wpIn_rangeMN (ps := #[86, 87]) (encs := encE) (Kp := fun m => KpM n0 m) (l0 := lr) (r0 := r) rfl hr' (by omega) (gf := 44) (lb := #[.pointer (some ⟨gE, 0, none⟩)]) rfl trivial (enters_of Tryz.func44 (by kernel_rfl) rfl)
      ((HPA.out.seq WA hB0A (n - 1 - 1 - 1) (by omega)).inRound lr) (Below.refl _ _) KpM.trans (fun W r r' h => KpM.put _ (by omega) (Nat.lt_succ_self _) h) (fun _ => rfl)
      (fun pre' V' => Boxed V' WQ.heap.size 3 (.int .i64 (pre'.length : Int)) ∧ Below WQ.heap.size WA V') (fun _ _ _ => False)
      (OwnFrom.and (Own.from (boxed_own WQ.heap.size 3 (fun pre' : List (QuadL × Value) => .int .i64 (pre'.length : Int))) _) (ownFrom_below (by omega) (by omega)))
      (fun _ _ _ _ _ hs _ _ => hs) ⟨bJ, Below.refl _ _⟩ ?round ?done ?stop
    case round =>
      rintro pre' z' V' ⟨bJ2, hBW⟩ hR' hsz' hr2 hlt'
      refine wpIn_skip ⟨⟨KeepsFrom.refl _ _, KpM.refl _ _ _⟩, fun r' => ?_⟩
      obtain ⟨r2, hr2⟩ := hr2
      have bJ3 := bJ2.kept (grownBy_putObj' V' WA.heap.size (.loop r')) (fun e => by have := Option.some.inj e; omega)
      have hBW3 : Below WQ.heap.size WA (V'.putObj WA.heap.size (.loop r')) := hBW.grown (grownBy_putObj' V' WA.heap.size (.loop r')) (by omega) (fun k e => by have := Option.some.inj e; omega)
      generalize V'.putObj WA.heap.size (.loop r') = V3 at bJ3 hBW3 ⊢
      have cJ := bJ3.cell
      have fJ := bJ3.frozen
      have hlt3 : pre'.length < 4611686018427387904 := by have := HCN.out; omega
      have HBJ := Lib.hid bJ3
      have HBW := Lib.hid hBW3
      have hWs := Lib.hid hsz
      clear bJ2 hBW bJ3 hBW3 c14 c5 c11 c12 c13 c4 f14 hsz' hr2 hR' hr hr' bJ bI hWA hB0A
      gi_wp2_with fail
      have hW1 := hWs.out
      exact ⟨(KeepsOthers.setCell _ _ _).from _, ⟨(Below.refl _ V3).setCell (p := ⟨WQ.heap.size, 0, none⟩) (by show n0 ≤ WQ.heap.size; omega) _, fun k h1 h2 => RowKit.Below.heap_setCell _ _ _ _ (by show k ≠ WQ.heap.size; omega)⟩, by
        have := HBJ.out.set (.int .i64 ((pre'.length : Int) + 1))
        simpa using this, HBW.out.setCell (p := ⟨WQ.heap.size, 0, none⟩) (Nat.le_refl _) _⟩
    case done =>
      rintro ys' V' hlen ⟨bJ2, hBW⟩
      rw [show ys'.length = countE l from hlen] at bJ2
      have HB2 : Hid (Boxed V' g14 3 (.int .i64 (m : Int))) := Lib.hid (boxed_belowL bI hBW l14)
      have hWV : Below WQ.heap.size WQ V' := hWA.trans hBW
      have HV2 : Hid (Below V2.heap.size V2 V') := Lib.hid (HVV.out.trans (hWV.mono (by have := HVV.out.size; omega)))
      have HBB2 : Hid (Below g14 W0 V') := Lib.hid (HBB.out.trans (hWV.mono (by omega)))
      have cJ := bJ2.cell
      have c14' := HB2.out.cell
      have f14' := HB2.out.frozen
      have PA := HPA.out
      obtain ⟨h4, h5, h8, h10, h11, hn12, h12, hn13, h13, h14, h6⟩ := PA.lt
      have c11' := (boxed_belowL PA.b11 HBB2.out (by omega)).cell
      have c13' := (boxed_belowL PA.b13 HBB2.out (by omega)).cell
      have c4' := (boxed_belowL PA.b4 HBB2.out (by omega)).cell
      have neJ : WQ.heap.size ≠ g14 := by omega
      have neC : ((countE l : Int) != (countE l : Int)) = false := by simp
      clear bJ2 hBW hWA hr' bJ bI hr c14 c5 c11 c12 c13 c4 f14 hB0A hWV PA h4 h5 h8 h10 h11 hn12 h12 hn13 h13 h6 hLS hNN h14 hlen
      gi_wp2_with fail
      all_goals (first | exact ep_break HEM.out HB2.out HBB2.out HV2.out H14.out HN.out HS.out (by assumption) (by assumption) | exact ep_end HEM.out HB2.out HBB2.out HV2.out H14.out HN.out HS.out)
    case stop =>
      rintro c pre' V' _ h
      exact h.elim
set_option maxHeartbeats 8000000 in
theorem ep_headA (n : Nat) (hn : 9 ≤ n) (l : List UInt8) (W0 : World) (n0 g4 g5 g6 g8 g10 g11 g12 g13 g14 gE : Nat) (vq : Value) (x y st inn : Int) (kk : Nat) (PA : EpAt l W0 n0 g4 g5 g6 g8 g10 g11 g12 g13 g14 gE vq x y st inn kk)
    (y0 y1 y2 y3 y7 y9 _y15 _y16 y17 y18 y19 y20 y21 y22 y23 y24 y25 y26 y27 y28 y29 y30 y31 y32 y33 y34 y35 y36 y37 y38 y39 y40 y41 y42 y43 y44 y45 y46 y47 y48 y49 y50 y51 y52 y53 y54 y55 y56 y57 y58 y59 y60 y61 y62 y63 y64 y65 y66 y67 y68 y69 y70 y71 y72 y73 y74 y75 y76 y77 y78 y79 y80 y81 y82 y83 y84 y85 y86 y87 y88 y89 y90 y91 y92 y93 y94 y95 y96 y97 y98 y99 y100 y101 y102 y103 y104 y105 y106 y107 y108 y109 y110 y111 y112 y113 y114 y115 y116 y117 y118 y119 : Value) (lr : Nat) (pre : List (QuadL × Value)) (z : QuadL × Value) (V2 : World) (Bx : Nat) (hr : ∃ r, V2.heap[lr]? = some (.loop r)) (hI : EpI W0 g14 pre V2) (hs : W0.heap.size + 2 ≤ V2.heap.size) (xq : QuadL) (hX : BoxN V2 Bx 36 #[.int .i64 xq.s.kind, .string (B xq.s.text), .string (B xq.s.type), .string (B xq.s.lang), .int .i64 xq.p.kind, .string (B xq.p.text), .string (B xq.p.type), .string (B xq.p.lang), .int .i64 xq.o.kind, .string (B xq.o.text), .string (B xq.o.type), .string (B xq.o.lang), .int .i64 xq.g.kind, .string (B xq.g.text), .string (B xq.g.type), .string (B xq.g.lang)]) (hm : pre.length < (wantE l).length) (hq : (wantE l)[pre.length] = xq) :
    eachHead.wpIn (Fence.wide.inRound lr) (n - 1 - 1) Tryz.prog (Exit.then (fun a w => eachTail.wpIn (Fence.wide.inRound lr) (n - 1 - 1) Tryz.prog (Exit.inBlock 3 (postM W0.heap.size (KpM n0 (W0.heap.size + 2)) (EpI W0 g14) (EpX W0 g14 st kk) (pre ++ [z]) V2)) a w) (Exit.inBlock 3 (postM W0.heap.size (KpM n0 (W0.heap.size + 2)) (EpI W0 g14) (EpX W0 g14 st kk) (pre ++ [z]) V2))) { tmps := #[y0, y1, y2, y3, .pointer (some ⟨g4, 0, none⟩), .pointer (some ⟨g5, 0, none⟩), .pointer (some ⟨g6, 0, none⟩), y7, .pointer (some ⟨g8, 0, none⟩), y9, .pointer (some ⟨g10, 0, none⟩), .pointer (some ⟨g11, 0, none⟩), .pointer (some ⟨g12, 0, none⟩), .pointer (some ⟨g13, 0, none⟩), .pointer (some ⟨g14, 0, none⟩), .pointer (some ⟨Bx, 0, none⟩), .nilIface, y17, y18, y19, y20, y21, y22, y23, y24, y25, y26, y27, y28, y29, y30, y31, y32, y33, y34, y35, y36, y37, y38, y39, y40, y41, y42, y43, y44, y45, y46, y47, y48, y49, y50, y51, y52, y53, y54, y55, y56, y57, y58, y59, y60, y61, y62, y63, y64, y65, y66, y67, y68, y69, y70, y71, y72, y73, y74, y75, y76, y77, y78, y79, y80, y81, y82, y83, y84, y85, y86, y87, y88, y89, y90, y91, y92, y93, y94, y95, y96, y97, y98, y99, y100, y101, y102, y103, y104, y105, y106, y107, y108, y109, y110, y111, y112, y113, y114, y115, y116, y117, y118, y119], defers := [] } V2 := by
  obtain ⟨hb14, hB⟩ := hI
  obtain ⟨h4, h5, h8, h10, h11, hn12, h12, hn13, h13, h14, h6⟩ := PA.lt
  have hcnt := countE_few PA.len
  have hlen := PA.len
  obtain ⟨m, em⟩ : ∃ m, pre.length = m := ⟨_, rfl⟩
  simp only [em] at hb14 hm hq
  have c14 := hb14.cell
  have c11 := (boxed_belowL PA.b11 hB (by omega)).cell
  have c8 := (boxed_belowL PA.b8 hB (by omega)).cell
  have hct : m < countE l := by unfold countE; omega
  obtain ⟨a, c, rfl, _, hqa⟩ := PA.q V2 (hB.mono (by omega))
  obtain ⟨b, o, rfl⟩ := hqa.place (by omega)
  have r1 := hqa.get hm
  rw [hq] at r1
  obtain ⟨L, hL⟩ : ∃ L, (wantE l).length = L := ⟨_, rfl⟩
  rw [hL] at hm c8 hlen
  have h46 : decide ((countE l : Int) ≤ (m : Int)) = false := decide_eq_false (by omega)
  have h46n : decide (countE l ≤ m) = false := decide_eq_false (by omega)
  have h51 : decide ((m : Int) < (L : Int)) = true := decide_eq_true (by omega)
  have h51n : decide (m < L) = true := decide_eq_true hm
  have h69 : ((m : Int) == (L : Int)) = false := beq_eq_false_iff_ne.2 (by omega)
  have hm0 : (0 : Int) ≤ (m : Int) := by omega
  obtain ⟨d0, d1, d2, d3, d4, d5, d6, d7, d8, d9, d10, d11, d12, d13, d14, d15⟩ := cells16 r1
  have e0 := hX.cell 0 _ rfl
  have e1 := hX.cell 1 _ rfl
  have e2 := hX.cell 2 _ rfl
  have e3 := hX.cell 3 _ rfl
  have e4 := hX.cell 4 _ rfl
  have e5 := hX.cell 5 _ rfl
  have e6 := hX.cell 6 _ rfl
  have e7 := hX.cell 7 _ rfl
  have e8 := hX.cell 8 _ rfl
  have e9 := hX.cell 9 _ rfl
  have e10 := hX.cell 10 _ rfl
  have e11 := hX.cell 11 _ rfl
  have e12 := hX.cell 12 _ rfl
  have e13 := hX.cell 13 _ rfl
  have e14 := hX.cell 14 _ rfl
  have e15 := hX.cell 15 _ rfl
  have NE := fun u => neq_q xq xq u
  rw [decide_eq_true rfl] at NE
  simp only [Bool.not_true] at NE
  dsimp only [qvE] at NE
  have HPA := Lib.hid PA
  have HB1 := Lib.hid hb14
  have HBB := Lib.hid hB
  have HEM := Lib.hid em
  have HS := Lib.hid hs
  have HR := Lib.hid hr
  have HCT := Lib.hid hct
  have HL := Lib.hid hL
  clear r1 hq hqa hX hL PA hb14 hB em h14 hs hr hcnt h4 h5 h6 h8 h10 h11 hn12 h12 hn13 h13 hct
  conv => arg 4; whnf
  gi_wp2_with fail
  refine region_quiet_round_lit rfl (by kernel_rfl) (by kernel_rfl) (by kernel_rfl) ?_
  repeat (gi_big_quiet_step (fail))
  refine wpQuietIn_nil ?_
  intro _ hw'
  obtain ⟨nq, hw''⟩ := hw'
  subst hw''
  gi_wp2_with fail
  exact ep_tail n hn l W0 n0 g4 g5 g6 g8 g10 g11 g12 g13 g14 gE _ x y st inn kk HPA.out _ _ _ _ _ _ _ _ _ _ _ _ _ _ _ _ _ _ _ _ _ _ _ _ _ _ _ _ _ _ _ _ _ _ _ _ _ _ _ _ _ _ _ _ _ _ _ _ _ _ _ _ _ _ _ _ _ _ _ _ _ _ _ _ _ _ _ _ _ _ _ _ _ _ _ _ _ _ _ _ _ _ _ _ _ _ _ _ _ _ _ _ _ _ _ _ _ _ _ _ _ _ _ _ _ _ _ _ _ _ _ lr pre z V2 (V2.drewN nq) HR.out ⟨by rw [HEM.out]; exact HB1.out, _root_.Go.below_drewN HBB.out nq⟩ (_root_.Go.below_drewN (Below.refl _ _) nq) HS.out (by rw [HEM.out]; exact HCT.out)
theorem region_quiet_round_below {G : Fence} {n : Nat} {P : Program} {l : Nat} {Q : Exit → Act → World → Prop} {id : Nat} {a : Act} {w : World} {m : List Oper} (hG : G.round = none) (hd : m.all noDefer = true) (hm : P.follows .mixedOrders = true) (hB : Region.lexB .any m.toArray = true)
    (h : wpQuietIn G n P m.toArray (fun w' => ∃ p : Regrown, w' = grow (redrawn w p.d) p.os) (fun a' => ∀ w', (∃ p : Regrown, w' = grow (redrawn w p.d) p.os) → Q .normal a' w') m a) : (Code.region id m.toArray true).wpIn (G.inRound l) n P Q a w :=
  region_quiet_round (C := fun w' => ∃ p : Regrown, w' = grow (redrawn w p.d) p.os) hG (noDefer_all hd) hm hB ⟨⟨w.drawn + 1, #[]⟩, by rw [grow_empty]; rfl⟩ (by simpa using h)
theorem neq_fltE (a b : Int) (w : World) : (binOp .neq 42 (.agg #[.int .i64 a, .int .i64 b]) (.agg #[.int .i64 a, .int .i64 b])).run Tryz.prog w = .ok (.bool false) w := by
  go_simp
set_option maxHeartbeats 8000000 in
theorem ep_headB (n : Nat) (hn : 9 ≤ n) (l : List UInt8) (W0 : World) (n0 g4 g5 g6 g8 g10 g11 g12 g13 g14 gE : Nat) (vq : Value) (x y st inn : Int) (kk : Nat) (PA : EpAt l W0 n0 g4 g5 g6 g8 g10 g11 g12 g13 g14 gE vq x y st inn kk)
    (y0 y1 y2 y3 y7 y9 _y15 _y16 y17 y18 y19 y20 y21 y22 y23 y24 y25 y26 y27 y28 y29 y30 y31 y32 y33 y34 y35 y36 y37 y38 y39 y40 y41 y42 y43 y44 y45 y46 y47 y48 y49 y50 y51 y52 y53 y54 y55 y56 y57 y58 y59 y60 y61 y62 y63 y64 y65 y66 y67 y68 y69 y70 y71 y72 y73 y74 y75 y76 y77 y78 y79 y80 y81 y82 y83 y84 y85 y86 y87 y88 y89 y90 y91 y92 y93 y94 y95 y96 y97 y98 y99 y100 y101 y102 y103 y104 y105 y106 y107 y108 y109 y110 y111 y112 y113 y114 y115 y116 y117 y118 y119 : Value) (lr : Nat) (pre : List (QuadL × Value)) (z : QuadL × Value) (V2 : World) (Bx : Nat) (hr : ∃ r, V2.heap[lr]? = some (.loop r)) (hI : EpI W0 g14 pre V2) (hs : W0.heap.size + 2 ≤ V2.heap.size) (eb p : Nat) (e : Int) (hX : BoxN V2 Bx 36 #[.int .i64 0, .string ⟨#[]⟩, .string ⟨#[]⟩, .string ⟨#[]⟩, .int .i64 0, .string ⟨#[]⟩, .string ⟨#[]⟩, .string ⟨#[]⟩, .int .i64 0, .string ⟨#[]⟩, .string ⟨#[]⟩, .string ⟨#[]⟩, .int .i64 0, .string ⟨#[]⟩, .string ⟨#[]⟩, .string ⟨#[]⟩]) (hm : pre.length = (wantE l).length) (he : errE l = some (p, e)) (hv : ErrIs V2 (.iface 86 (.pointer (some ⟨eb, 0, none⟩))) (.inr (p, e))) :
    eachHead.wpIn (Fence.wide.inRound lr) (n - 1 - 1) Tryz.prog (Exit.then (fun a w => eachTail.wpIn (Fence.wide.inRound lr) (n - 1 - 1) Tryz.prog (Exit.inBlock 3 (postM W0.heap.size (KpM n0 (W0.heap.size + 2)) (EpI W0 g14) (EpX W0 g14 st kk) (pre ++ [z]) V2)) a w) (Exit.inBlock 3 (postM W0.heap.size (KpM n0 (W0.heap.size + 2)) (EpI W0 g14) (EpX W0 g14 st kk) (pre ++ [z]) V2))) { tmps := #[y0, y1, y2, y3, .pointer (some ⟨g4, 0, none⟩), .pointer (some ⟨g5, 0, none⟩), .pointer (some ⟨g6, 0, none⟩), y7, .pointer (some ⟨g8, 0, none⟩), y9, .pointer (some ⟨g10, 0, none⟩), .pointer (some ⟨g11, 0, none⟩), .pointer (some ⟨g12, 0, none⟩), .pointer (some ⟨g13, 0, none⟩), .pointer (some ⟨g14, 0, none⟩), .pointer (some ⟨Bx, 0, none⟩), .iface 86 (.pointer (some ⟨eb, 0, none⟩)), y17, y18, y19, y20, y21, y22, y23, y24, y25, y26, y27, y28, y29, y30, y31, y32, y33, y34, y35, y36, y37, y38, y39, y40, y41, y42, y43, y44, y45, y46, y47, y48, y49, y50, y51, y52, y53, y54, y55, y56, y57, y58, y59, y60, y61, y62, y63, y64, y65, y66, y67, y68, y69, y70, y71, y72, y73, y74, y75, y76, y77, y78, y79, y80, y81, y82, y83, y84, y85, y86, y87, y88, y89, y90, y91, y92, y93, y94, y95, y96, y97, y98, y99, y100, y101, y102, y103, y104, y105, y106, y107, y108, y109, y110, y111, y112, y113, y114, y115, y116, y117, y118, y119], defers := [] } V2 := by
  obtain ⟨hb14, hB⟩ := hI
  obtain ⟨h4, h5, h8, h10, h11, hn12, h12, hn13, h13, h14, h6⟩ := PA.lt
  have hcnt := countE_few PA.len
  have hlen := PA.len
  obtain ⟨m, em⟩ : ∃ m, pre.length = m := ⟨_, rfl⟩
  simp only [em] at hb14 hm
  have c14 := hb14.cell
  have c11 := (boxed_belowL PA.b11 hB (by omega)).cell
  have c8 := (boxed_belowL PA.b8 hB (by omega)).cell
  have hct : m < countE l := by rw [countE_bad he]; omega
  have c10 := (PA.b10.below hB (by omega)).cell 0 _ rfl
  have c10' := (PA.b10.below hB (by omega)).cell 1 _ rfl
  have hf := PA.f
  rw [he] at hf
  simp only [faultE, Value.agg.injEq, Array.mk.injEq, List.cons.injEq, Value.int.injEq, true_and, and_true] at hf
  obtain ⟨rfl, rfl⟩ := hf
  obtain ⟨a, c, rfl, _, _⟩ := PA.q V2 (hB.mono (by omega))
  obtain ⟨L, hL⟩ : ∃ L, (wantE l).length = L := ⟨_, rfl⟩
  rw [hL] at hm c8 hlen
  subst hm
  have h46 : decide ((countE l : Int) ≤ (m : Int)) = false := decide_eq_false (by omega)
  have h46n : decide (countE l ≤ m) = false := decide_eq_false (by omega)
  have h51 : decide ((m : Int) < (m : Int)) = false := decide_eq_false (by omega)
  have h51n : decide (m < m) = false := decide_eq_false (by omega)
  have h69 : ((m : Int) == (m : Int)) = true := beq_self_eq_true _
  have NEz : ∀ u, (binOp .neq 36 (.agg #[.int .i64 0, .string ⟨#[]⟩, .string ⟨#[]⟩, .string ⟨#[]⟩, .int .i64 0, .string ⟨#[]⟩, .string ⟨#[]⟩, .string ⟨#[]⟩, .int .i64 0, .string ⟨#[]⟩, .string ⟨#[]⟩, .string ⟨#[]⟩, .int .i64 0, .string ⟨#[]⟩, .string ⟨#[]⟩, .string ⟨#[]⟩]) (.agg #[.int .i64 0, .string ⟨#[]⟩, .string ⟨#[]⟩, .string ⟨#[]⟩, .int .i64 0, .string ⟨#[]⟩, .string ⟨#[]⟩, .string ⟨#[]⟩, .int .i64 0, .string ⟨#[]⟩, .string ⟨#[]⟩, .string ⟨#[]⟩, .int .i64 0, .string ⟨#[]⟩, .string ⟨#[]⟩, .string ⟨#[]⟩])).run Tryz.prog u = .ok (.bool false) u := fun u => by
    have h := neq_q noQuad noQuad u
    rw [decide_eq_true rfl] at h
    exact h
  have NF := neq_fltE (p : Int) e
  have k14 := cell_regrown c14
  have k11 := cell_regrown c11
  have k8 := cell_regrown c8
  have k10 := cell_regrown c10
  have k10' := cell_regrown c10'
  have k200 := cell_regrown (hX.cell 0 _ rfl)
  have k201 := cell_regrown (hX.cell 1 _ rfl)
  have k202 := cell_regrown (hX.cell 2 _ rfl)
  have k203 := cell_regrown (hX.cell 3 _ rfl)
  have k204 := cell_regrown (hX.cell 4 _ rfl)
  have k205 := cell_regrown (hX.cell 5 _ rfl)
  have k206 := cell_regrown (hX.cell 6 _ rfl)
  have k207 := cell_regrown (hX.cell 7 _ rfl)
  have k208 := cell_regrown (hX.cell 8 _ rfl)
  have k209 := cell_regrown (hX.cell 9 _ rfl)
  have k210 := cell_regrown (hX.cell 10 _ rfl)
  have k211 := cell_regrown (hX.cell 11 _ rfl)
  have k212 := cell_regrown (hX.cell 12 _ rfl)
  have k213 := cell_regrown (hX.cell 13 _ rfl)
  have k214 := cell_regrown (hX.cell 14 _ rfl)
  have k215 := cell_regrown (hX.cell 15 _ rfl)
  have hn2 : 1 ≤ n - 1 - 1 := by omega
  have cS : ∀ d os k, CallsIn Fence.wide k Tryz.prog 20 #[.iface 86 (.pointer (some ⟨eb, 0, none⟩))] (grow (redrawn V2 d) os) fun e9 w'' => e9 = .returned (.agg #[.int .i64 (p : Int), .int .i64 e]) ∧ ∃ r : Regrown, w'' = grow (redrawn V2 r.d) r.os :=
    fun d os k => callsIn_wide.2 (Calls.regrown_of (seen_err _ p e _ (hv.below (below_regrown V2 d os))))
  have HPA := Lib.hid PA
  have HB1 := Lib.hid hb14
  have HBB := Lib.hid hB
  have HEM := Lib.hid em
  have HS := Lib.hid hs
  have HR := Lib.hid hr
  have HCT := Lib.hid hct
  have HL := Lib.hid hL
  clear hX hL he hv c14 c11 c8 c10 c10' PA hb14 hB em h14 hs hr hcnt h4 h5 h6 h8 h10 h11 hn12 h12 hn13 h13 hct
  conv => arg 4; whnf
  gi_wp2_with fail
  refine region_quiet_round_below rfl (by kernel_rfl) (by kernel_rfl) (by kernel_rfl) ?_
  repeat (gi_big_quiet_step (exact cS _ _ _))
  refine wpQuietIn_nil ?_
  intro _ hw'
  obtain ⟨⟨dq, osq⟩, hw''⟩ := hw'
  subst hw''
  have hBR := below_regrown V2 dq osq
  have hrR : ∃ r, (grow (redrawn V2 dq) osq).heap[lr]? = some (.loop r) := by
    obtain ⟨r, hr⟩ := HR.out
    exact ⟨r, (hBR.block lr (Array.getElem?_eq_some_iff.1 hr).1).trans hr⟩
  have hIR : EpI W0 g14 pre (grow (redrawn V2 dq) osq) := by
    refine ⟨by rw [HEM.out]; exact boxed_belowE HB1.out hBR, HBB.out.trans (hBR.mono (by have := HS.out; have := HPA.out.lt.2.2.2.2.2.2.2.2.2.1; omega))⟩
  generalize grow (redrawn V2 dq) osq = WR at hBR hrR hIR ⊢
  have H1 := Lib.hid hBR
  have H2 := Lib.hid hrR
  have H3 := Lib.hid hIR
  clear hBR hrR hIR k14 k11 k8 k10 k10' k200 k201 k202 k203 k204 k205 k206 k207 k208 k209 k210 k211 k212 k213 k214 k215 cS
  gi_wp2_with fail
  exact ep_tail n hn l W0 n0 g4 g5 g6 g8 g10 g11 g12 g13 g14 gE _ _ _ st inn kk HPA.out _ _ _ _ _ _ _ _ _ _ _ _ _ _ _ _ _ _ _ _ _ _ _ _ _ _ _ _ _ _ _ _ _ _ _ _ _ _ _ _ _ _ _ _ _ _ _ _ _ _ _ _ _ _ _ _ _ _ _ _ _ _ _ _ _ _ _ _ _ _ _ _ _ _ _ _ _ _ _ _ _ _ _ _ _ _ _ _ _ _ _ _ _ _ _ _ _ _ _ _ _ _ _ _ _ _ _ _ _ _ _ lr pre z V2 WR H2.out H3.out H1.out HS.out (by rw [HEM.out]; exact HCT.out)
end Go.Proofs.YtdegonmkikfghaaGreatDoor

/-
  tesseralaw09.NquadsEach: one round, one pass, the whole walk. By an AI agent.
-/
namespace Go.Proofs.YtdegonmkikfghaaGreatDoor
open Go.RowKit Go.Shelf
set_option maxRecDepth 1000000
attribute [local go_sem] Oper.semAt_some wide_fn

theorem RowE.kept {l : List UInt8} {X Y : World} {n : Nat} {z : QuadL × Value} {row : Option Nat} (h : RowE l X n z) (hg : X.grownBy Y row) (hr : ∀ r, row = some r → ∃ o : Obj, X.heap[r]? = some o ∧ o.isCells = false) : RowE l Y n z := by
  rcases h with h | ⟨h1, h2, p, e, h3, b, hv, c0, c1⟩
  · exact .inl h
  · exact .inr ⟨h1, h2, p, e, h3, b, hv, cell_kept c0 hg hr, cell_kept c1 hg hr⟩
theorem ep_body (n : Nat) (hn : 9 ≤ n) (l : List UInt8) (W0 : World) (n0 g4 g5 g6 g8 g10 g11 g12 g13 g14 gE : Nat) (vq : Value) (x y st inn : Int) (kk : Nat) (PA : EpAt l W0 n0 g4 g5 g6 g8 g10 g11 g12 g13 g14 gE vq x y st inn kk)
    (y0 y1 y2 y3 y7 y9 _y15 _y16 y17 y18 y19 y20 y21 y22 y23 y24 y25 y26 y27 y28 y29 y30 y31 y32 y33 y34 y35 y36 y37 y38 y39 y40 _y41 _y42 _y43 y44 y45 y46 y47 y48 y49 y50 y51 y52 y53 y54 y55 y56 y57 y58 y59 y60 y61 y62 y63 y64 y65 y66 y67 y68 y69 y70 y71 y72 y73 y74 y75 y76 y77 y78 y79 y80 y81 y82 y83 y84 y85 y86 y87 y88 y89 y90 y91 y92 y93 y94 y95 y96 y97 y98 y99 y100 y101 y102 y103 y104 y105 y106 y107 y108 y109 y110 y111 y112 y113 y114 y115 y116 y117 y118 y119 : Value) (lr : Nat) (pre : List (QuadL × Value)) (z : QuadL × Value) (V2 : World) (Bx : Nat) (hr : ∃ r, V2.heap[lr]? = some (.loop r)) (hI : EpI W0 g14 pre V2) (hs : W0.heap.size + 2 ≤ V2.heap.size) (hX : BoxN V2 Bx 36 #[.int .i64 z.1.s.kind, .string (B z.1.s.text), .string (B z.1.s.type), .string (B z.1.s.lang), .int .i64 z.1.p.kind, .string (B z.1.p.text), .string (B z.1.p.type), .string (B z.1.p.lang), .int .i64 z.1.o.kind, .string (B z.1.o.text), .string (B z.1.o.type), .string (B z.1.o.lang), .int .i64 z.1.g.kind, .string (B z.1.g.text), .string (B z.1.g.type), .string (B z.1.g.lang)]) (hR : RowE l V2 pre.length z) :
    (Code.block 3 (Code.seq eachHead eachTail)).wpIn (Fence.wide.inRound lr) (n - 1 - 1) Tryz.prog (postM W0.heap.size (KpM n0 (W0.heap.size + 2)) (EpI W0 g14) (EpX W0 g14 st kk) (pre ++ [z]) V2) { tmps := #[y0, y1, y2, y3, .pointer (some ⟨g4, 0, none⟩), .pointer (some ⟨g5, 0, none⟩), .pointer (some ⟨g6, 0, none⟩), y7, .pointer (some ⟨g8, 0, none⟩), y9, .pointer (some ⟨g10, 0, none⟩), .pointer (some ⟨g11, 0, none⟩), .pointer (some ⟨g12, 0, none⟩), .pointer (some ⟨g13, 0, none⟩), .pointer (some ⟨g14, 0, none⟩), .pointer (some ⟨Bx, 0, none⟩), z.2, y17, y18, y19, y20, y21, y22, y23, y24, y25, y26, y27, y28, y29, y30, y31, y32, y33, y34, y35, y36, y37, y38, y39, y40, .func (.func 44) #[] #[.pointer (some ⟨gE, 0, none⟩)], .agg #[.int .i64 z.1.s.kind, .string (B z.1.s.text), .string (B z.1.s.type), .string (B z.1.s.lang), .int .i64 z.1.p.kind, .string (B z.1.p.text), .string (B z.1.p.type), .string (B z.1.p.lang), .int .i64 z.1.o.kind, .string (B z.1.o.text), .string (B z.1.o.type), .string (B z.1.o.lang), .int .i64 z.1.g.kind, .string (B z.1.g.text), .string (B z.1.g.type), .string (B z.1.g.lang)], z.2, y44, y45, y46, y47, y48, y49, y50, y51, y52, y53, y54, y55, y56, y57, y58, y59, y60, y61, y62, y63, y64, y65, y66, y67, y68, y69, y70, y71, y72, y73, y74, y75, y76, y77, y78, y79, y80, y81, y82, y83, y84, y85, y86, y87, y88, y89, y90, y91, y92, y93, y94, y95, y96, y97, y98, y99, y100, y101, y102, y103, y104, y105, y106, y107, y108, y109, y110, y111, y112, y113, y114, y115, y116, y117, y118, y119], defers := [] } V2 := by
  refine wpIn_block (wpIn_seq ?_)
  obtain ⟨q, ev⟩ := z
  rcases hR with ⟨h, h1, h2⟩ | ⟨h1, h2, p, e, he, eb, hv, c0, c1⟩
  · obtain rfl : ev = .nilIface := h2
    exact ep_headA n hn l W0 n0 g4 g5 g6 g8 g10 g11 g12 g13 g14 gE vq x y st inn kk PA _ _ _ _ _ _ .nilIface .nilIface _ _ _ _ _ _ _ _ _ _ _ _ _ _ _ _ _ _ _ _ _ _ _ _ _ _ _ _ _ _ _ _ _ _ _ _ _ _ _ _ _ _ _ _ _ _ _ _ _ _ _ _ _ _ _ _ _ _ _ _ _ _ _ _ _ _ _ _ _ _ _ _ _ _ _ _ _ _ _ _ _ _ _ _ _ _ _ _ _ _ _ _ _ _ _ _ _ _ _ _ _ _ _ lr pre (q, .nilIface) V2 Bx hr hI hs q hX h h1.symm
  · obtain rfl : q = noQuad := h2
    obtain rfl : ev = _ := hv
    exact ep_headB n hn l W0 n0 g4 g5 g6 g8 g10 g11 g12 g13 g14 gE vq x y st inn kk PA _ _ _ _ _ _ .nilIface .nilIface _ _ _ _ _ _ _ _ _ _ _ _ _ _ _ _ _ _ _ _ _ _ _ _ _ _ _ _ _ _ _ _ _ _ _ _ _ _ _ _ _ _ _ _ _ _ _ _ _ _ _ _ _ _ _ _ _ _ _ _ _ _ _ _ _ _ _ _ _ _ _ _ _ _ _ _ _ _ _ _ _ _ _ _ _ _ _ _ _ _ _ _ _ _ _ _ _ _ _ _ _ _ _ lr pre _ V2 Bx hr hI hs eb p e hX h1 he ⟨eb, rfl, c0, c1⟩
set_option maxHeartbeats 4000000 in
theorem ep_pass (n : Nat) (hn : 9 ≤ n) (l : List UInt8) (W0 : World) (n0 g4 g5 g6 g8 g10 g11 g12 g13 g14 gE : Nat) (vq : Value) (x y st inn : Int) (kk : Nat) (PA : EpAt l W0 n0 g4 g5 g6 g8 g10 g11 g12 g13 g14 gE vq x y st inn kk)
    (y0 y1 y2 y3 y7 y9 y15 y16 y17 y18 y19 y20 y21 y22 y23 y24 y25 y26 y27 y28 y29 y30 y31 y32 y33 y34 y35 y36 y37 y38 y39 y40 _y41 y42 y43 y44 y45 y46 y47 y48 y49 y50 y51 y52 y53 y54 y55 y56 y57 y58 y59 y60 y61 y62 y63 y64 y65 y66 y67 y68 y69 y70 y71 y72 y73 y74 y75 y76 y77 y78 y79 y80 y81 y82 y83 y84 y85 y86 y87 y88 y89 y90 y91 y92 y93 y94 y95 y96 y97 y98 y99 y100 y101 y102 y103 y104 y105 y106 y107 y108 y109 y110 y111 y112 y113 y114 y115 y116 y117 y118 y119 : Value) (ds : List Deferred) (hg : Boxed W0 g14 3 (.int .i64 0)) (Q : Exit → Act → World → Prop)
    (hQ : ∀ (W : World) (v : Nat), W.heap[W0.heap.size]? = some (.deferred (some [])) → Boxed W g14 3 (.int .i64 (v : Int)) → Below g14 W0 W → (v = countE l ∨ (kk = 0 ∧ ((v : Int) == wrap64 (st + 1)) = true)) → v ≤ countE l →
      Q .normal { tmps := #[y0, y1, y2, y3, .pointer (some ⟨g4, 0, none⟩), .pointer (some ⟨g5, 0, none⟩), .pointer (some ⟨g6, 0, none⟩), y7, .pointer (some ⟨g8, 0, none⟩), y9, .pointer (some ⟨g10, 0, none⟩), .pointer (some ⟨g11, 0, none⟩), .pointer (some ⟨g12, 0, none⟩), .pointer (some ⟨g13, 0, none⟩), .pointer (some ⟨g14, 0, none⟩), y15, y16, y17, y18, y19, y20, y21, y22, y23, y24, y25, y26, y27, y28, y29, y30, y31, y32, y33, y34, y35, y36, y37, y38, y39, y40, .func (.func 44) #[] #[.pointer (some ⟨gE, 0, none⟩)], y42, y43, y44, y45, y46, y47, y48, y49, y50, y51, y52, y53, y54, y55, y56, y57, y58, y59, y60, y61, y62, y63, y64, y65, y66, y67, y68, y69, y70, y71, y72, y73, y74, y75, y76, y77, y78, y79, y80, y81, y82, y83, y84, y85, y86, y87, y88, y89, y90, y91, y92, y93, y94, y95, y96, y97, y98, y99, y100, y101, y102, y103, y104, y105, y106, y107, y108, y109, y110, y111, y112, y113, y114, y115, y116, y117, y118, y119], defers := { target := .collected W0.heap.size, args := #[] } :: ds } W) :
    eachCode.wpIn Fence.wide n Tryz.prog (Exit.inBlock 2 Q) { tmps := #[y0, y1, y2, y3, .pointer (some ⟨g4, 0, none⟩), .pointer (some ⟨g5, 0, none⟩), .pointer (some ⟨g6, 0, none⟩), y7, .pointer (some ⟨g8, 0, none⟩), y9, .pointer (some ⟨g10, 0, none⟩), .pointer (some ⟨g11, 0, none⟩), .pointer (some ⟨g12, 0, none⟩), .pointer (some ⟨g13, 0, none⟩), .pointer (some ⟨g14, 0, none⟩), y15, y16, y17, y18, y19, y20, y21, y22, y23, y24, y25, y26, y27, y28, y29, y30, y31, y32, y33, y34, y35, y36, y37, y38, y39, y40, .func (.func 44) #[] #[.pointer (some ⟨gE, 0, none⟩)], y42, y43, y44, y45, y46, y47, y48, y49, y50, y51, y52, y53, y54, y55, y56, y57, y58, y59, y60, y61, y62, y63, y64, y65, y66, y67, y68, y69, y70, y71, y72, y73, y74, y75, y76, y77, y78, y79, y80, y81, y82, y83, y84, y85, y86, y87, y88, y89, y90, y91, y92, y93, y94, y95, y96, y97, y98, y99, y100, y101, y102, y103, y104, y105, y106, y107, y108, y109, y110, y111, y112, y113, y114, y115, y116, y117, y118, y119], defers := ds } W0 := by
  obtain ⟨h4, h5, h8, h10, h11, hn12, h12, hn13, h13, h14, h6⟩ := PA.lt
  conv => arg 4; whnf
  refine wpIn_rangeM (ps := #[42, 43]) (encs := encE) (Kp := fun m => KpM n0 m) rfl (by omega) (gf := 44) (lb := #[.pointer (some ⟨gE, 0, none⟩)]) rfl trivial (enters_of Tryz.func44 (by kernel_rfl) rfl)
    (PA.seq W0 (Below.refl _ _) (n - 1) (by omega)) (Below.refl _ _) KpM.trans (fun W r r' h => KpM.put _ (by omega) (by omega) h) (fun _ => rfl)
    (EpI W0 g14) (EpX W0 g14 st kk) (epI_own W0 g14 (by omega)) (epX_own W0 g14 st kk (by omega)) ⟨hg, Below.refl _ _⟩ ?round ?done ?stop
  case round =>
    rintro pre z V hI hR hsz hr hlt
    have hrow := hR.row
    gi_wp2
    have hg1 := World.grownBy_alloc V (.cells #[.int .i64 z.1.s.kind, .string (B z.1.s.text), .string (B z.1.s.type), .string (B z.1.s.lang), .int .i64 z.1.p.kind, .string (B z.1.p.text), .string (B z.1.p.type), .string (B z.1.p.lang), .int .i64 z.1.o.kind, .string (B z.1.o.text), .string (B z.1.o.type), .string (B z.1.o.lang), .int .i64 z.1.g.kind, .string (B z.1.g.text), .string (B z.1.g.type), .string (B z.1.g.lang)] 36) none
    have hI1 : EpI W0 g14 pre (V.alloc (.cells #[.int .i64 z.1.s.kind, .string (B z.1.s.text), .string (B z.1.s.type), .string (B z.1.s.lang), .int .i64 z.1.p.kind, .string (B z.1.p.text), .string (B z.1.p.type), .string (B z.1.p.lang), .int .i64 z.1.o.kind, .string (B z.1.o.text), .string (B z.1.o.type), .string (B z.1.o.lang), .int .i64 z.1.g.kind, .string (B z.1.g.text), .string (B z.1.g.type), .string (B z.1.g.lang)] 36)) := epI_own W0 g14 (by omega) pre V _ none hI hg1 (by simp)
    have hR1 := hrow.kept hg1 (by simp)
    have hX1 := BoxN.new V 36 #[.int .i64 z.1.s.kind, .string (B z.1.s.text), .string (B z.1.s.type), .string (B z.1.s.lang), .int .i64 z.1.p.kind, .string (B z.1.p.text), .string (B z.1.p.type), .string (B z.1.p.lang), .int .i64 z.1.o.kind, .string (B z.1.o.text), .string (B z.1.o.type), .string (B z.1.o.lang), .int .i64 z.1.g.kind, .string (B z.1.g.text), .string (B z.1.g.type), .string (B z.1.g.lang)]
    have hs1 : (V.alloc (.cells #[.int .i64 z.1.s.kind, .string (B z.1.s.text), .string (B z.1.s.type), .string (B z.1.s.lang), .int .i64 z.1.p.kind, .string (B z.1.p.text), .string (B z.1.p.type), .string (B z.1.p.lang), .int .i64 z.1.o.kind, .string (B z.1.o.text), .string (B z.1.o.type), .string (B z.1.o.lang), .int .i64 z.1.g.kind, .string (B z.1.g.text), .string (B z.1.g.type), .string (B z.1.g.lang)] 36)).heap.size = V.heap.size + 1 := by simp
    have hr1 : ∃ r, (V.alloc (.cells #[.int .i64 z.1.s.kind, .string (B z.1.s.text), .string (B z.1.s.type), .string (B z.1.s.lang), .int .i64 z.1.p.kind, .string (B z.1.p.text), .string (B z.1.p.type), .string (B z.1.p.lang), .int .i64 z.1.o.kind, .string (B z.1.o.text), .string (B z.1.o.type), .string (B z.1.o.lang), .int .i64 z.1.g.kind, .string (B z.1.g.text), .string (B z.1.g.type), .string (B z.1.g.lang)] 36)).heap[W0.heap.size + 1]? = some (.loop r) := by
      obtain ⟨r, hr⟩ := hr
      exact ⟨r, (Below.heap_alloc V _ _ (Array.getElem?_eq_some_iff.1 hr).1).trans hr⟩
    have hb1 : Below V.heap.size V (V.alloc (.cells #[.int .i64 z.1.s.kind, .string (B z.1.s.text), .string (B z.1.s.type), .string (B z.1.s.lang), .int .i64 z.1.p.kind, .string (B z.1.p.text), .string (B z.1.p.type), .string (B z.1.p.lang), .int .i64 z.1.o.kind, .string (B z.1.o.text), .string (B z.1.o.type), .string (B z.1.o.lang), .int .i64 z.1.g.kind, .string (B z.1.g.text), .string (B z.1.g.type), .string (B z.1.g.lang)] 36)) := (Below.refl _ _).alloc (Nat.le_refl _) _
    refine ⟨⟨(keeps_belowE hb1).from _, KpM.of_below hb1 (by omega) (Nat.le_refl _)⟩, fun r' => ?_⟩
    generalize V.alloc (.cells #[.int .i64 z.1.s.kind, .string (B z.1.s.text), .string (B z.1.s.type), .string (B z.1.s.lang), .int .i64 z.1.p.kind, .string (B z.1.p.text), .string (B z.1.p.type), .string (B z.1.p.lang), .int .i64 z.1.o.kind, .string (B z.1.o.text), .string (B z.1.o.type), .string (B z.1.o.lang), .int .i64 z.1.g.kind, .string (B z.1.g.text), .string (B z.1.g.type), .string (B z.1.g.lang)] 36) = V1 at hI1 hR1 hX1 hs1 hr1 ⊢
    obtain ⟨r, hr1⟩ := hr1
    have hl1 := (Array.getElem?_eq_some_iff.1 hr1).1
    have hg2 := grownBy_putObj' V1 (W0.heap.size + 1) (.loop r')
    have hrr : ∀ k, some (W0.heap.size + 1) = some k → ∃ o : Obj, V1.heap[k]? = some o ∧ o.isCells = false := fun k e => by cases e; exact ⟨_, hr1, rfl⟩
    exact ep_body n hn l W0 n0 g4 g5 g6 g8 g10 g11 g12 g13 g14 gE vq x y st inn kk PA _ _ _ _ _ _ .nilIface .nilIface _ _ _ _ _ _ _ _ _ _ _ _ _ _ _ _ _ _ _ _ _ _ _ _ .nilIface .nilIface .nilIface _ _ _ _ _ _ _ _ _ _ _ _ _ _ _ _ _ _ _ _ _ _ _ _ _ _ _ _ _ _ _ _ _ _ _ _ _ _ _ _ _ _ _ _ _ _ _ _ _ _ _ _ _ _ _ _ _ _ _ _ _ _ _ _ _ _ _ _ _ _ _ _ _ _ _ _ (W0.heap.size + 1) pre z (V1.putObj (W0.heap.size + 1) (.loop r')) V.heap.size ⟨r', World.putObj_heap_same hl1⟩ ((epI_own W0 g14 (by omega)).putObj _ hI1 (Nat.le_succ _) hr1 rfl) (by simp; omega)
      (hX1.kept hg2 (fun e => by have := Option.some.inj e; omega)) (hR1.kept hg2 hrr)
  case done =>
    rintro xs W hlen hI hD
    exact hQ W _ hD hI.1 hI.2 (.inl hlen) (Nat.le_of_eq hlen)
  case stop =>
    rintro d pre W hSp ⟨rfl, h0, hs, hb, hB⟩ hD
    exact wpIn_exit (hQ W _ hD hb hB (.inr ⟨h0, hs⟩) hSp)
/-- the second time round -/
theorem ep_next {l : List UInt8} {W0 W : World} {n0 g4 g5 g6 g8 g10 g11 g12 g13 g14 gE : Nat} {vq : Value} {x y st inn : Int} (PA : EpAt l W0 n0 g4 g5 g6 g8 g10 g11 g12 g13 g14 gE vq x y st inn 0) (hB : Below g14 W0 W) :
    EpAt l ((W.alloc (.cells #[.int .i64 1] 3)).alloc (.cells #[.int .i64 0] 3)) n0 g4 g5 g6 g8 g10 g11 g12 W.heap.size (W.heap.size + 1) gE vq x y st inn 1 := by
  obtain ⟨h4, h5, h8, h10, h11, hn12, h12, hn13, h13, h14, h6⟩ := PA.lt
  have hz := hB.size
  have b13 := (Boxed.new W 3 (.int .i64 1)).alloc (.cells #[.int .i64 0] 3)
  have hBA : Below n0 W0 ((W.alloc (.cells #[.int .i64 1] 3)).alloc (.cells #[.int .i64 0] 3)) := ((hB.mono (by omega)).alloc (by omega) _).alloc (by simp; omega) _
  exact ⟨((boxed_belowL PA.b4 hB (by omega)).alloc _).alloc _, ((boxed_belowL PA.b5 hB (by omega)).alloc _).alloc _, ((boxed_belowL PA.b8 hB (by omega)).alloc _).alloc _, ((PA.b10.below hB (by omega)).alloc _).alloc _, ((boxed_belowL PA.b11 hB (by omega)).alloc _).alloc _, ((boxed_belowL PA.b12 hB (by omega)).alloc _).alloc _, b13,
    ⟨h4, h5, h8, h10, h11, hn12, by omega, by omega, by omega, by simp, h6⟩, fun V h => PA.q V (hBA.trans h), PA.f, PA.len, PA.st, fun V h n hn => PA.seq V (hBA.trans h) n hn⟩
/-- what is known ahead of nquads.Each -/
structure EpPre (l : List UInt8) (W : World) (g4 g5 g6 g8 g10 g11 : Nat) (vq : Value) (x y st inn : Int) (a : Option Addr) (c : Nat) : Prop where
  b4 : Boxed W g4 3 (.int .i64 st)
  b5 : Boxed W g5 3 (.int .i64 inn)
  b8 : Boxed W g8 22 vq
  b10 : BoxN W g10 42 #[.int .i64 x, .int .i64 y]
  b11 : Boxed W g11 3 (.int .i64 (countE l : Int))
  h6 : g6 < W.heap.size
  q : ∀ V, Below W.heap.size W V → QView V vq (wantE l)
  f : faultE (errE l) = .agg #[.int .i64 x, .int .i64 y]
  len : l.length ≤ 1048576 ∧ (wantE l).length ≤ 1048576
  st : -9223372036854775808 ≤ st ∧ st ≤ 9223372036854775807
  hc : l.length ≤ c
  tab : ∀ V, Below W.heap.size W V → At V a (l.map U8) ∧ TabAt V ∧ MaxAt V ∧ UtAt V ∧ ErrType V
theorem ep_first {l : List UInt8} {W : World} {g4 g5 g6 g8 g10 g11 : Nat} {vq : Value} {x y st inn : Int} {a : Option Addr} {c : Nat} (H : EpPre l W g4 g5 g6 g8 g10 g11 vq x y st inn a c) :
    EpAt l ((((W.alloc (.cells #[.slice a l.length c] 25)).alloc (.cells #[.func (.func 44) #[] #[.pointer (some ⟨W.heap.size, 0, none⟩)]] 55)).alloc (.cells #[.int .i64 0] 3)).alloc (.cells #[.int .i64 0] 3)) (W.heap.size + 1) g4 g5 g6 g8 g10 g11 (W.heap.size + 1) (W.heap.size + 2) (W.heap.size + 3) W.heap.size vq x y st inn 0 := by
  have h4 := H.b4.lt
  have h5 := H.b5.lt
  have h8 := H.b8.lt
  have h10 := H.b10.lt
  have h11 := H.b11.lt
  have h6 := H.h6
  generalize e1 : W.alloc (.cells #[.slice a l.length c] 25) = w1
  generalize e2 : w1.alloc (.cells #[.func (.func 44) #[] #[.pointer (some ⟨W.heap.size, 0, none⟩)]] 55) = w2
  generalize e3 : w2.alloc (.cells #[.int .i64 0] 3) = w3
  generalize e4 : w3.alloc (.cells #[.int .i64 0] 3) = w4
  have z1 : w1.heap.size = W.heap.size + 1 := by rw [← e1]; simp
  have z2 : w2.heap.size = W.heap.size + 2 := by rw [← e2]; simp [z1]
  have z3 : w3.heap.size = W.heap.size + 3 := by rw [← e3]; simp [z2]
  have z4 : w4.heap.size = W.heap.size + 4 := by rw [← e4]; simp [z3]
  have k1 : w1.heap[W.heap.size]? = some (.cells #[.slice a l.length c] 25 (0, 0)) := by rw [← e1]; exact World.alloc_heap_new W _
  have B1 : Below W.heap.size W w1 := by rw [← e1]; exact (Below.refl _ _).alloc (Nat.le_refl _) _
  have B14 : Below w1.heap.size w1 w4 := by
    rw [← e4, ← e3, ← e2]
    exact (((Below.refl _ w1).alloc (Nat.le_refl _) _).alloc (by simp) _).alloc (by simp; omega) _
  have B4 : Below W.heap.size W w4 := B1.trans (B14.mono (by omega))
  have x2 : Boxed w2 (W.heap.size + 1) 55 (.func (.func 44) #[] #[.pointer (some ⟨W.heap.size, 0, none⟩)]) := by rw [← e2, ← z1]; exact Boxed.new w1 _ _
  have x3 : Boxed w3 (W.heap.size + 2) 3 (.int .i64 0) := by rw [← e3, ← z2]; exact Boxed.new w2 _ _
  have y2 : Boxed w4 (W.heap.size + 1) 55 (.func (.func 44) #[] #[.pointer (some ⟨W.heap.size, 0, none⟩)]) := by rw [← e4, ← e3]; exact (x2.alloc _).alloc _
  have y3 : Boxed w4 (W.heap.size + 2) 3 (.int .i64 0) := by rw [← e4]; exact x3.alloc _
  refine ⟨boxed_belowL H.b4 B4 h4, boxed_belowL H.b5 B4 h5, boxed_belowL H.b8 B4 h8, H.b10.below B4 h10, boxed_belowL H.b11 B4 h11, y2, y3, ⟨by omega, by omega, by omega, by omega, by omega, Nat.le_refl _, by omega, by omega, by omega, by omega, by omega⟩,
    fun V h => H.q V (B4.trans (h.mono (Nat.le_succ _))), H.f, H.len.2, H.st, fun V h n hn => ?_⟩
  have hV : Below (W.heap.size + 1) w1 V := (B14.mono (by omega)).trans h
  have hs := hV.size
  exact each_seq n hn l a c W.heap.size (W.heap.size + 1) V H.len.1 H.hc (by omega) (by omega) (Nat.lt_succ_self _) ((hV.block _ (Nat.lt_succ_self _)).trans k1) (fun U hU => H.tab U (B1.trans ((hV.trans hU).mono (Nat.le_succ _))))
end Go.Proofs.YtdegonmkikfghaaGreatDoor
