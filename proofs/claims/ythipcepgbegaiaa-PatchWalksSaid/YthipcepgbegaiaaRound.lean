/-
  A region that draws its order within a round of a range over a function: walked once, in the order of the text, where its operations only read. Blocks of several cells that a loop over an iterator keeps. No program in sight. By an AI agent.
-/
import Derived.RangeFuncNested
import Derived.RangeFuncBound
import Derived.RangeFuncCalls
import Derived.RangeFuncLeaves
import Derived.Shelf.Abstract
import Derived.Shelf.RegionOpen
import Derived.WalkKit
import Derived.OwnWalkIn
import Derived.TacticsInMore
import Derived.LoopNIn
import Derived.LoopIn
import Derived.Sort.BigQuietIn
import Derived.Lib.Hide
namespace Go.Proofs.Ythipcepgbegaiaa
open Go.RowKit Go.Shelf
set_option maxRecDepth 100000
section
variable {G : Fence} {n : Nat} {P : Program} {ops : Array Oper} {l : Nat}
theorem oper_round {Q : Exit → Act → World → Prop} (hG : G.round = none) {o : Oper} (hd : ∀ c, o.op ≠ .defer c) {a : Act} {w : World} {K : Act → World → Prop} (h : o.wpIn G n P a w K Q) : o.wpIn (G.inRound l) n P a w K Q := by
  obtain ⟨h1, h2⟩ := h
  refine ⟨h1, ?_⟩
  rw [Oper.semAt_plain _ _ _ hd] at h2 ⊢
  exact h2
theorem ops_round {Q : Exit → Act → World → Prop} (hG : G.round = none) (hd : ∀ o ∈ ops.toList, ∀ c, o.op ≠ .defer c) : ∀ (is : List Nat) (a : Act) (w : World), wpOpsIn G n P ops Q is a w → wpOpsIn (G.inRound l) n P ops Q is a w
  | [], _, _, h => h
  | i :: rest, a, w, h => by
    have ih := ops_round (Q := Q) hG hd rest
    unfold wpOpsIn at h ⊢
    cases ho : ops[i]? with
    | none => rw [ho] at h; exact ih _ _ h
    | some o =>
      rw [ho] at h
      have hmem : o ∈ ops.toList := by
        obtain ⟨hi, rfl⟩ := Array.getElem?_eq_some_iff.1 ho
        exact Array.getElem_mem_toList hi
      simp only at h ⊢
      split
      · next hw =>
        rw [if_pos hw] at h
        exact Oper.wpIn_mono (fun a w => ih a w) (oper_round hG (hd o hmem) h)
      · next hw =>
        rw [if_neg hw] at h
        exact ⟨h.1, ih _ _ h.2⟩
theorem region_any_round {Q : Exit → Act → World → Prop} (hG : G.round = none) {id : Nat} {a : Act} {w : World} (hd : ∀ o ∈ ops.toList, ∀ c, o.op ≠ .defer c) (hm : P.follows .mixedOrders = true)
    (h : wpAnyIn G n P .any ops Q ops.size (Array.replicate ops.size false) a { w with drawn := w.drawn + 1 }) : (Code.region id ops true).wpIn (G.inRound l) n P Q a w :=
  wpIn_region_draw fun t => by
    simp only [Region.schedule, hm, Bool.true_or, if_true]
    exact ops_round hG hd _ _ _ (wpAnyIn_sound ops.size t _ a _ h)
/-- **ONE WALK OF THE LEXICAL ORDER SERVES EVERY ORDER, WITHIN A ROUND** -/
theorem region_quiet_round {C : World → Prop} {Q : Exit → Act → World → Prop} (hG : G.round = none) {id : Nat} {a : Act} {w : World} (hd : ∀ o ∈ ops.toList, ∀ c, o.op ≠ .defer c) (hm : P.follows .mixedOrders = true) (hB : Region.lexB .any ops = true) (hC : C { w with drawn := w.drawn + 1 })
    (h : wpQuietIn G n P ops C (fun a' => ∀ w', C w' → Q .normal a' w') ops.toList a) : (Code.region id ops true).wpIn (G.inRound l) n P Q a w := by
  simp only [Region.lexB, Bool.and_eq_true] at hB
  refine region_any_round hG hd hm (wpAnyIn_of_quiet (Q := fun a' => ∀ w', C w' → Q .normal a' w') hG (fun _ w' hw' h => h w' hw') _ _ _ _ hC ?_)
  have := wpAnyQIn_lex (F := G) (n := n) (C := C) (md := .any) hB.1 ops.toList 0 (Array.replicate ops.size false) a (by simp) (by simpa using hB.2) h
  simpa using this
def noDefer (o : Oper) : Bool := match o.op with | .defer _ => false | _ => true
theorem noDefer_all {l : List Oper} (h : l.all noDefer = true) : ∀ o ∈ l.toArray.toList, ∀ c, o.op ≠ .defer c := by
  intro o ho c he
  have := List.all_eq_true.1 h o (by simpa using ho)
  unfold noDefer at this
  rw [he] at this
  cases this
theorem region_quiet_round_lit {Q : Exit → Act → World → Prop} {id : Nat} {a : Act} {w : World} {m : List Oper} (hG : G.round = none) (hd : m.all noDefer = true) (hm : P.follows .mixedOrders = true) (hB : Region.lexB .any m.toArray = true)
    (h : wpQuietIn G n P m.toArray (fun w' => ∃ n, w' = w.drewN n) (fun a' => ∀ w', (∃ n, w' = w.drewN n) → Q .normal a' w') m a) : (Code.region id m.toArray true).wpIn (G.inRound l) n P Q a w :=
  region_quiet_round (C := fun w' => ∃ n, w' = w.drewN n) hG (noDefer_all hd) hm hB ⟨1, rfl⟩ (by simpa using h)
end
/-- a block of cells that lets itself be written -/
def BoxN (W : World) (B : Nat) (t : TypeId) (cs : Array Value) : Prop := W.heap[B]? = some (.cells cs t (0, 0))
theorem BoxN.lt {W : World} {B : Nat} {t : TypeId} {cs : Array Value} (h : BoxN W B t cs) : B < W.heap.size := (Array.getElem?_eq_some_iff.1 h).1
theorem BoxN.cell {W : World} {B : Nat} {t : TypeId} {cs : Array Value} (h : BoxN W B t cs) (j : Nat) (v : Value) (hj : cs[j]? = some v) : W.cell? ⟨B, j, none⟩ = some v := by simp [World.cell?, show W.heap[B]? = _ from h, hj]
theorem BoxN.kept {W W' : World} {row : Option Nat} {B : Nat} {t : TypeId} {cs : Array Value} (h : BoxN W B t cs) (hg : W.grownBy W' row) (hne : some B ≠ row) : BoxN W' B t cs := (hg.block B h.lt hne).trans h
theorem BoxN.below {W W' : World} {n B : Nat} {t : TypeId} {cs : Array Value} (h : BoxN W B t cs) (hb : Below n W W') (hB : B < n) : BoxN W' B t cs := (hb.block B hB).trans h
theorem BoxN.new (W : World) (t : TypeId) (cs : Array Value) : BoxN (W.alloc (.cells cs t)) W.heap.size t cs := World.alloc_heap_new W _
theorem BoxN.alloc {W : World} {B : Nat} {t : TypeId} {cs : Array Value} (h : BoxN W B t cs) (o : Obj) : BoxN (W.alloc o) B t cs := h.kept (World.grownBy_alloc W o none) (by simp)
theorem boxN_own {β : Type} (B : Nat) (t : TypeId) (f : β → Array Value) : Own (fun s W => BoxN W B t (f s)) := fun s X Y row hs hg hrow =>
  hs.kept hg (fun e' => by obtain ⟨o, ho, hc⟩ := hrow B e'.symm; rw [show X.heap[B]? = _ from hs] at ho; cases ho; cases hc)
theorem boxed_below {W W' : World} {n B : Nat} {t : TypeId} {v : Value} (h : Boxed W B t v) (hb : Below n W W') (hB : B < n) : Boxed W' B t v := (hb.block B hB).trans h
/-- a loop within a round whose loop variables are left unassigned -/
theorem rangeN_skip {F : Fence} {n : Nat} {P : Program} {α : Type} {g : Operand} {ps : Array Tmp} {body : Code} {Q : Exit → Act → World → Prop} {a : Act} {w : World}
    {l₀ : Nat} {r₀ : Loop} (hro : F.round = some l₀) (hl₀ : w.heap[l₀]? = some (.loop r₀)) (h1 : 1 ≤ n) {gf : Nat} {lb : Array Value} (hg : a.eval g = .func (.func gf) #[] lb) (hFg : F.fn gf) (eg : ∀ args w, (callFunc gf args).run P w = .ok (.enter gf args) w)
    {encs : α → Array Value} {n₀ : Nat} {S Sp : List α → Prop} {N : Nat} {w0 : World} (hseq : SeqStopsK F (n - 1) P gf lb encs (Below n₀) S Sp N w0)
    (hn : n₀ ≤ w.heap.size) (hb0 : Below w0.heap.size w0 w) (hps : ∀ x, (encs x).size = ps.size)
    (I : List α → World → Prop) (Ix : Code → List α → World → Prop) (hI : OwnFrom w.heap.size I) (hIx : ∀ c, OwnFrom w.heap.size (Ix c)) (h0 : I [] w)
    (hbody : ∀ (l : Nat) (pre : List α) (x : α) (W : World), w.heap.size ≤ l → (∃ r, W.heap[l]? = some (.loop r)) → I pre W → pre.length < N →
      body.wpIn (F.inRound l) (n - 1 - 1) P (ownPostG w.heap.size (Below n₀) I Ix (pre ++ [x]) W) { tmps := (ps.zip (encs x)).foldl (fun t (p, v) => t.setIfInBounds p v) a.tmps, defers := [] } W)
    (hdone : ∀ (xs : List α) (W : World), S xs → I xs W → Q .normal a W)
    (hstop : ∀ (c : Code) (pre : List α) (W : World), Sp pre → Ix c pre W → c.wpIn F n P Q a W) :
    (Code.rangeFunc g ps .skip body).wpIn F n P Q a w :=
  wpIn_rangeFunc_ownN hro hl₀ h1 hg hFg eg hseq belowK_t (belowK_b hn) hb0 hps I Ix hI hIx h0
    (fun x a' _ => a' = { tmps := (ps.zip (encs x)).foldl (fun t (p, v) => t.setIfInBounds p v) a.tmps, defers := [] }) (fun _ _ _ _ _ _ hs _ _ => hs)
    (fun _ _ _ _ _ hi hK => wpIn_skip (hK _ _ (KeepsFrom.refl _ _) (Below.refl _ _) hi rfl))
    (fun l pre x a' W hl hr hi hax hlt => by rw [hax]; exact hbody l pre x W hl hr hi hlt) hdone hstop
theorem boxed_drewN {W : World} {B : Nat} {t : TypeId} {v : Value} (h : Boxed W B t v) (n : Nat) : Boxed (W.drewN n) B t v := h
theorem keepsFrom_drewN {B : Nat} (W : World) (n : Nat) : KeepsFrom B W (W.drewN n) := ⟨Nat.le_refl _, fun _ _ _ h _ => h⟩
end Go.Proofs.Ythipcepgbegaiaa
