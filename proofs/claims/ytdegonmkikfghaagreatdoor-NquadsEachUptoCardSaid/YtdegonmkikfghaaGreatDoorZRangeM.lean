/-
  A range over a function whose round knows something (R) of what has been yielded, in the world that it is yielded in, and whose iterator may itself range over a function: such an iterator's contract, and the laws of a loop over it (outermost, and within a round). No program in sight. By an AI agent.
-/
import Derived.RangeFuncNested
import Derived.RangeFuncKeeps
import Derived.Test.YtdegonmkikfghaaGreatDoorZEol0
import Derived.Test.YtdegonmkikfghaaGreatDoorZSort0
import Derived.Test.YtdegonmkikfghaaGreatDoorZRdW0
import Derived.Test.YtdegonmkikfghaaGreatDoorZRdW1
import Derived.Test.YtdegonmkikfghaaGreatDoorZAs
import Derived.Test.YtdegonmkikfghaaGreatDoorZLoadQ
import Derived.Laws.EntriesVeiled
import Derived.Scope
namespace Go.Proofs.YtdegonmkikfghaaGreatDoor
open Go Go.RowKit

/-- below n0 nothing has turned, and nothing of what lay from m on -/
structure KpM (n0 m : Nat) (V V' : World) : Prop where
  lo : Below n0 V V'
  hi : ∀ k, m ≤ k → k < V.heap.size → V'.heap[k]? = V.heap[k]?
theorem KpM.refl (n0 m : Nat) (V : World) : KpM n0 m V V := ⟨Below.refl _ _, fun _ _ _ => rfl⟩
theorem KpM.trans {n0 m : Nat} {A B C : World} (h : KpM n0 m A B) (k : KpM n0 m B C) : KpM n0 m A C :=
  ⟨h.lo.trans k.lo, fun i h1 h2 => (k.hi i h1 (Nat.lt_of_lt_of_le h2 h.lo.size)).trans (h.hi i h1 h2)⟩
theorem KpM.mono {n0 m m' : Nat} {A B : World} (h : KpM n0 m A B) (hm : m ≤ m') : KpM n0 m' A B := ⟨h.lo, fun i h1 h2 => h.hi i (Nat.le_trans hm h1) h2⟩
theorem KpM.of_below {n0 m b : Nat} {A B : World} (h : Below b A B) (hn : n0 ≤ b) (hb : A.heap.size ≤ b) : KpM n0 m A B := ⟨h.mono hn, fun _ _ h2 => h.block _ (Nat.lt_of_lt_of_le h2 hb)⟩
theorem KpM.put {n0 m : Nat} {W : World} {l : Nat} {o : Obj} (o' : Obj) (hl : n0 ≤ l) (hm : l < m) (h : W.heap[l]? = some o) : KpM n0 m W (W.putObj l o') :=
  ⟨(Below.refl n0 W).grown (grownBy_putObj' W l o') (by have := (Array.getElem?_eq_some_iff.1 h).1; omega) (fun k e => by cases e; omega), fun k h1 _ => World.putObj_heap_other (by omega)⟩
theorem KpM.from {n0 m : Nat} {A B : World} (h : KpM n0 m A B) : KeepsFrom m A B := ⟨h.lo.size, fun k _ h1 h2 _ => (h.hi k h1 (Array.getElem?_eq_some_iff.1 h2).1).trans h2⟩
/-- what an iterator promises: each round may lean on R, and keeps Kp (told of the heap's end at the iterator's call), however it ends -/
def SeqM {α : Type} (F : Fence) (n : Nat) (P : Program) (g : Nat) (lb : Array Value) (encs : α → Array Value) (Kp : Nat → World → World → Prop) (R : List α → World → Prop) (S Sp : List α → Prop) (N : Nat) (w : World) : Prop :=
  ∀ (l : Nat) (J Jx : List α → World → Prop) (W : World), Below w.heap.size w W → OwnFrom W.heap.size J → OwnFrom W.heap.size Jx →
    (∀ pre x V, J pre V → R (pre ++ [x]) V → W.heap.size ≤ V.heap.size → pre.length < N → YieldAt F (n - 1) P l (encs x) V fun e V' =>
      (e = .returned (.bool true) ∧ J (pre ++ [x]) V' ∧ Kp W.heap.size V V') ∨ (e = .returned (.bool false) ∧ Jx (pre ++ [x]) V' ∧ Kp W.heap.size V V')) →
    J [] W → CallsIn F n P g (#[.func (.yield l) #[] #[]] ++ lb) W fun e V => (∃ v, e = .returned v) ∧ ((∃ xs, S xs ∧ J xs V) ∨ (∃ pre, Sp pre ∧ Jx pre V))
theorem SeqM.inRound {α : Type} {F : Fence} {n : Nat} {P : Program} {g : Nat} {lb : Array Value} {encs : α → Array Value} {Kp : Nat → World → World → Prop} {R : List α → World → Prop} {S Sp : List α → Prop} {N : Nat} {w : World} (l : Nat)
    (h : SeqM F n P g lb encs Kp R S Sp N w) : SeqM (F.inRound l) n P g lb encs Kp R S Sp N w := h
/-- how the body of a round may be left -/
def postM {α : Type} (c : Nat) (Kp : World → World → Prop) (I : List α → World → Prop) (Ix : Code → List α → World → Prop) (xs : List α) (W : World) : Exit → Act → World → Prop
  | .normal, _, W' => KeepsFrom c W W' ∧ Kp W W' ∧ I xs W'
  | .ret, _, W' => KeepsFrom c W W' ∧ Kp W W' ∧ Ix .ret xs W'
  | .exit id, _, W' => KeepsFrom c W W' ∧ Kp W W' ∧ Ix (.exit id) xs W'
  | .goto t, _, W' => KeepsFrom c W W' ∧ Kp W W' ∧ Ix (.goto t) xs W'
  | .panic _, _, _ => False
  | .outgrown, _, _ => False
section
variable {α : Type} {F : Fence} {n : Nat} {P : Program} {encs : α → Array Value} {Kp : Nat → World → World → Prop} {R : List α → World → Prop} {S Sp : List α → Prop} {N : Nat} {w0 : World}
theorem postM_mono {c : Nat} {K : World → World → Prop} {I I' : List α → World → Prop} {Ix Ix' : Code → List α → World → Prop} {xs : List α} {W : World} (h1 : ∀ V, KeepsFrom c W V → I xs V → I' xs V) (h2 : ∀ d V, KeepsFrom c W V → Ix d xs V → Ix' d xs V) : ∀ (e : Exit) (a : Act) (V : World), postM c K I Ix xs W e a V → postM c K I' Ix' xs W e a V
  | .normal, _, _, h => ⟨h.1, h.2.1, h1 _ h.1 h.2.2⟩
  | .ret, _, _, h => ⟨h.1, h.2.1, h2 _ _ h.1 h.2.2⟩
  | .exit _, _, _, h => ⟨h.1, h.2.1, h2 _ _ h.1 h.2.2⟩
  | .goto _, _, _, h => ⟨h.1, h.2.1, h2 _ _ h.1 h.2.2⟩
  | .panic _, _, _, h => h
  | .outgrown, _, _, h => h
/-- the iterator's call, at a record that lies -/
theorem rangeM_core {gf : Nat} {lb : Array Value} (hseq : SeqM F n P gf lb encs Kp R S Sp N w0) {U : World} (hb : Below w0.heap.size w0 U) {l c : Nat} (hcl : c ≤ l) (hlU : l < U.heap.size)
    (hKt : ∀ {A B C : World}, Kp U.heap.size A B → Kp U.heap.size B C → Kp U.heap.size A C) (hKp : ∀ (W : World) (r r' : Loop), W.heap[l]? = some (.loop r) → Kp U.heap.size W (W.putObj l (.loop r')))
    {fn : FuncId} {tm : Array Value} {ps : Array Tmp} {assign body : Code} {D : Nat} (mk : LoopState → Option Code → Loop) (hmk : mk = fun s p => { state := s, pending := p, fn, tmps := tm, params := ps, assign, body, defers := D }) (hfn : F.fn fn) (hps : ∀ x, (encs x).size = ps.size)
    (I : List α → World → Prop) (Ix : Code → List α → World → Prop) (hI : OwnFrom U.heap.size I) (hIx : ∀ c, OwnFrom U.heap.size (Ix c))
    (hIp : ∀ xs W r r', I xs W → W.heap[l]? = some (.loop r) → I xs (W.putObj l (.loop r'))) (hIxp : ∀ c xs W r r', Ix c xs W → W.heap[l]? = some (.loop r) → Ix c xs (W.putObj l (.loop r')))
    (h0 : I [] U) (hU : U.heap[l]? = some (.loop (mk .ready none)))
    (hround : ∀ (pre : List α) (x : α) (W : World), I pre W → R (pre ++ [x]) W → U.heap.size ≤ W.heap.size → (∃ r, W.heap[l]? = some (.loop r)) → pre.length < N →
      assign.wpIn (F.inRound l) (n - 1) P (Exit.then (fun a1 V => (KeepsFrom c W V ∧ Kp U.heap.size W V) ∧ ∀ r', body.wpIn (F.inRound l) (n - 1) P (postM c (Kp U.heap.size) I Ix (pre ++ [x]) (V.putObj l (.loop r'))) a1 (V.putObj l (.loop r'))) (fun _ _ _ => False))
        { tmps := (ps.zip (encs x)).foldl (fun t (p, v) => t.setIfInBounds p v) tm, defers := [] } W) :
    CallsIn F n P gf (#[.func (.yield l) #[] #[]] ++ lb) U fun e V => (∃ v, e = .returned v) ∧
      ((∃ xs, S xs ∧ I xs V ∧ V.heap[l]? = some (.loop (mk .ready none))) ∨ (∃ pre, Sp pre ∧ ∃ d, Ix d pre V ∧ V.heap[l]? = some (.loop (mk .done (some d))))) := by
  refine hseq l (fun pre W => I pre W ∧ W.heap[l]? = some (.loop (mk .ready none))) (fun pre W => ∃ d, Ix d pre W ∧ W.heap[l]? = some (.loop (mk .done (some d)))) U hb ?_ ?_ ?_ ⟨h0, hU⟩
  · rintro s A C row ⟨h2, h3⟩ h4 h5
    exact ⟨hI s A C row h2 h4 h5, (h4.block l (Array.getElem?_eq_some_iff.1 h3).1 (fun e => by have := (h5 l e.symm).1; omega)).trans h3⟩
  · rintro s A C row ⟨d, h2, h3⟩ h4 h5
    exact ⟨d, hIx d s A C row h2 h4 h5, (h4.block l (Array.getElem?_eq_some_iff.1 h3).1 (fun e => by have := (h5 l e.symm).1; omega)).trans h3⟩
  · rintro pre x W ⟨hi, hl⟩ hx hsz hlen
    have hlt : l < W.heap.size := (Array.getElem?_eq_some_iff.1 hl).1
    have hy := run_yield (P := P) (args := encs x) hl (by rw [hmk]; exact hps x)
    rw [hmk] at hy
    refine ⟨fn, _, assign, body, hy, roundIn_of_wpIn hfn (wpIn_mono (hround pre x W hi hx hsz ⟨_, hl⟩ hlen) ?_)⟩
    clear hy
    rintro e a1 V he
    cases e with
    | normal =>
      obtain ⟨k1, k3⟩ := he
      have hv : V.heap[l]? = some (.loop (mk .ready none)) := k1.1.same l _ hcl hl rfl
      have hlV : l < V.heap.size := (Array.getElem?_eq_some_iff.1 hv).1
      have hv2 : (V.putObj l (.loop { mk .ready none with state := .busy })).heap[l]? = some (.loop { mk .ready none with state := .busy }) := World.putObj_heap_same hlV
      have kb : Kp U.heap.size V (V.putObj l (.loop { mk .ready none with state := .busy })) := hKp _ _ _ hv
      refine ⟨_, run_beginRound hv (by rw [hmk]), wpIn_mono (k3 _) ?_⟩
      have fin : ∀ (j : Option Code) (V3 : World), KeepsFrom c (V.putObj l (.loop { mk .ready none with state := .busy })) V3 → Kp U.heap.size (V.putObj l (.loop { mk .ready none with state := .busy })) V3 →
          (Instr.endRound l j).run P V3 = .ok (.bool j.isNone) (V3.putObj l (.loop (mk (if j.isNone then .ready else .done) j))) ∧ V3.heap[l]? = some (.loop { mk .ready none with state := .busy }) ∧
          (V3.putObj l (.loop (mk (if j.isNone then .ready else .done) j))).heap[l]? = some (.loop (mk (if j.isNone then .ready else .done) j)) ∧ Kp U.heap.size W (V3.putObj l (.loop (mk (if j.isNone then .ready else .done) j))) := fun j V3 h hk => by
        have h3 := h.same l _ hcl hv2 rfl
        have h4 := run_endRound (P := P) j h3
        rw [hmk] at h4 ⊢
        exact ⟨h4, by rw [hmk] at h3; exact h3, World.putObj_heap_same (Array.getElem?_eq_some_iff.1 h3).1, hKt k1.2 (hKt kb (hKt hk (hKp _ _ _ h3)))⟩
      have out : ∀ (d : Code) (V3 : World), KeepsFrom c (V.putObj l (.loop { mk .ready none with state := .busy })) V3 → Kp U.heap.size (V.putObj l (.loop { mk .ready none with state := .busy })) V3 → Ix d (pre ++ [x]) V3 → _ := fun d V3 h hk hx => by
        obtain ⟨e1, e2, e3, e4⟩ := fin (some d) V3 h hk
        exact (⟨_, _, e1, .inr ⟨rfl, ⟨d, hIxp _ _ _ _ _ hx e2, e3⟩, e4⟩⟩ : ∃ v W', (Instr.endRound l (some d)).run P V3 = .ok v W' ∧ ((Ending.returned v = .returned (.bool true) ∧ (I (pre ++ [x]) W' ∧ W'.heap[l]? = some (.loop (mk .ready none))) ∧ Kp U.heap.size W W') ∨ (Ending.returned v = .returned (.bool false) ∧ (∃ d, Ix d (pre ++ [x]) W' ∧ W'.heap[l]? = some (.loop (mk .done (some d)))) ∧ Kp U.heap.size W W')))
      rintro e2 a3 V3 hp
      cases e2 with
      | normal =>
        obtain ⟨p1, p2, p3⟩ := hp
        obtain ⟨e1, e2, e3, e4⟩ := fin none V3 p1 p2
        exact ⟨_, _, e1, .inl ⟨rfl, ⟨hIp _ _ _ _ p3 e2, e3⟩, e4⟩⟩
      | ret => exact out .ret V3 hp.1 hp.2.1 hp.2.2
      | exit id => exact out (.exit id) V3 hp.1 hp.2.1 hp.2.2
      | goto t => exact out (.goto t) V3 hp.1 hp.2.1 hp.2.2
      | panic => exact hp.elim
      | outgrown => exact hp.elim
    | ret => exact he.elim
    | exit id => exact he.elim
    | goto t => exact he.elim
    | panic => exact he.elim
    | outgrown => exact he.elim
theorem ownFrom_above {β : Type} {B B' : Nat} {I : β → World → Prop} (h : OwnFrom B I) (hb : B ≤ B') : OwnFrom B' I := fun s A C row h1 h2 h3 => h s A C row h1 h2 (fun r e => ⟨Nat.le_trans hb (h3 r e).1, (h3 r e).2⟩)
/-- the loop's law -/
theorem wpIn_rangeM {g : Operand} {ps : Array Tmp} {assign body : Code} {Q : Exit → Act → World → Prop} {a : Act} {w : World}
    (hro : F.round = none) (h1 : 1 ≤ n) {gf : Nat} {lb : Array Value} (hg : a.eval g = .func (.func gf) #[] lb) (hFg : F.fn gf) (eg : ∀ args w, (callFunc gf args).run P w = .ok (.enter gf args) w)
    (hseq : SeqM F (n - 1) P gf lb encs Kp R S Sp N w0) (hb0 : Below w0.heap.size w0 w)
    (hKt : ∀ {A B C : World}, Kp (w.heap.size + 2) A B → Kp (w.heap.size + 2) B C → Kp (w.heap.size + 2) A C) (hKp : ∀ (W : World) (r r' : Loop), W.heap[w.heap.size + 1]? = some (.loop r) → Kp (w.heap.size + 2) W (W.putObj (w.heap.size + 1) (.loop r')))
    (hps : ∀ x, (encs x).size = ps.size)
    (I : List α → World → Prop) (Ix : Code → List α → World → Prop) (hI : OwnFrom w.heap.size I) (hIx : ∀ c, OwnFrom w.heap.size (Ix c)) (h0 : I [] w)
    (hround : ∀ (pre : List α) (x : α) (W : World), I pre W → R (pre ++ [x]) W → w.heap.size + 2 ≤ W.heap.size → (∃ r, W.heap[w.heap.size + 1]? = some (.loop r)) → pre.length < N →
      assign.wpIn (F.inRound (w.heap.size + 1)) (n - 1 - 1) P (Exit.then (fun a1 V => (KeepsFrom w.heap.size W V ∧ Kp (w.heap.size + 2) W V) ∧ ∀ r', body.wpIn (F.inRound (w.heap.size + 1)) (n - 1 - 1) P (postM w.heap.size (Kp (w.heap.size + 2)) I Ix (pre ++ [x]) (V.putObj (w.heap.size + 1) (.loop r'))) a1 (V.putObj (w.heap.size + 1) (.loop r'))) (fun _ _ _ => False))
        { tmps := (ps.zip (encs x)).foldl (fun t (p, v) => t.setIfInBounds p v) a.tmps, defers := [] } W)
    (hdone : ∀ (xs : List α) (W : World), S xs → I xs W → W.heap[w.heap.size]? = some (.deferred (some [])) → Q .normal { a with defers := { target := .collected w.heap.size, args := #[] } :: a.defers } W)
    (hstop : ∀ (c : Code) (pre : List α) (W : World), Sp pre → Ix c pre W → W.heap[w.heap.size]? = some (.deferred (some [])) → c.wpIn F n P Q { a with defers := { target := .collected w.heap.size, args := #[] } :: a.defers } W) :
    (Code.rangeFunc g ps assign body).wpIn F n P Q a w := by
  refine wpIn_rangeFunc fun fn hfn => ?_
  rw [hro]
  obtain ⟨mk, hmk⟩ : ∃ mk : LoopState → Option Code → Loop, mk = fun s p => { state := s, pending := p, fn, tmps := a.tmps, params := ps, assign, body, defers := w.heap.size } := ⟨_, rfl⟩
  obtain ⟨U, hU⟩ : ∃ U, (w.alloc (.deferred (some []))).alloc (.loop (mk .ready none)) = U := ⟨_, rfl⟩
  have hD : U.heap[w.heap.size]? = some (.deferred (some [])) := by subst hU; exact (Below.heap_alloc _ _ _ (by simp)).trans (World.alloc_heap_new w _)
  have hL : U.heap[w.heap.size + 1]? = some (.loop (mk .ready none)) := by
    subst hU
    have h := World.alloc_heap_new (w.alloc (.deferred (some []))) (.loop (mk .ready none))
    rwa [World.size_alloc] at h
  have hIU : I [] U := by subst hU; exact hI.alloc _ (hI.alloc _ h0)
  have hbU : Below w0.heap.size w0 U := by subst hU; exact (hb0.alloc hb0.size _).alloc (Nat.le_trans hb0.size (by simp)) _
  have hsU : U.heap.size = w.heap.size + 2 := by subst hU; simp
  refine ⟨w.heap.size + 1, [{ target := .collected w.heap.size, args := #[] }], U, { target := .fn (.func gf) lb, args := #[.func (.yield (w.heap.size + 1)) #[] #[]] }, U, gf, #[.func (.yield (w.heap.size + 1)) #[] #[]] ++ lb, U, ?_, ?_, ?_, ?_, fun _ => h1, ?_⟩
  · rw [← hU, hmk]; exact run_enterLoop_outer _ _ _ _ _
  · simp only [resolve, hg]; simp [go_sem]
  · intro f hf; simp [Target.leads] at hf; subst hf; exact hFg
  · simp [invoke, go_sem, eg]
  have kept : ∀ {A C : World} {row : Option Nat}, A.heap[w.heap.size]? = some (.deferred (some [])) → A.grownBy C row → (∀ r, row = some r → U.heap.size ≤ r ∧ ∃ o : Obj, A.heap[r]? = some o ∧ o.isCells = false) → C.heap[w.heap.size]? = some (.deferred (some [])) := fun h2 h3 h4 =>
    (h3.block _ (Array.getElem?_eq_some_iff.1 h2).1 (fun e => by have := (h4 _ e.symm).1; omega)).trans h2
  refine (rangeM_core hseq hbU (l := w.heap.size + 1) (c := w.heap.size) (Nat.le_succ _) (by omega) (by rw [hsU]; exact hKt) (by rw [hsU]; exact hKp) mk hmk hfn hps (fun xs W => I xs W ∧ W.heap[w.heap.size]? = some (.deferred (some []))) (fun d xs W => Ix d xs W ∧ W.heap[w.heap.size]? = some (.deferred (some [])))
    (fun s A C row h2 h3 h4 => ⟨(ownFrom_above hI (B' := U.heap.size) (by omega)) s A C row h2.1 h3 h4, kept h2.2 h3 h4⟩) (fun d s A C row h2 h3 h4 => ⟨(ownFrom_above (hIx d) (B' := U.heap.size) (by omega)) s A C row h2.1 h3 h4, kept h2.2 h3 h4⟩)
    (fun xs W r r' h2 h3 => ⟨hI.putObj _ h2.1 (Nat.le_succ _) h3 rfl, (World.putObj_heap_other (by omega)).trans h2.2⟩) (fun d xs W r r' h2 h3 => ⟨(hIx d).putObj _ h2.1 (Nat.le_succ _) h3 rfl, (World.putObj_heap_other (by omega)).trans h2.2⟩)
    ⟨hIU, hD⟩ hL ?_).mono ?_
  · rintro pre x W ⟨hi, hd⟩ hx hsz hr hlen
    rw [hsU]
    refine wpIn_mono (hround pre x W hi hx (by omega) hr hlen) ?_
    rintro e a1 V he
    cases e with
    | normal =>
      obtain ⟨k1, k2⟩ := he
      refine ⟨k1, fun r' => wpIn_mono (k2 r') ?_⟩
      have hdV : (V.putObj (w.heap.size + 1) (.loop r')).heap[w.heap.size]? = some (.deferred (some [])) := (World.putObj_heap_other (by omega)).trans (k1.1.same _ _ (Nat.le_refl _) hd rfl)
      exact postM_mono (fun V3 h2 h3 => ⟨h3, h2.same _ _ (Nat.le_refl _) hdV rfl⟩) (fun d V3 h2 h3 => ⟨h3, h2.same _ _ (Nat.le_refl _) hdV rfl⟩)
    | ret => exact he.elim
    | exit id => exact he.elim
    | goto t => exact he.elim
    | panic => exact he.elim
    | outgrown => exact he.elim
  · rintro e V ⟨⟨v, rfl⟩, h⟩
    rcases h with ⟨xs, hS, ⟨hi, hd⟩, hl⟩ | ⟨pre, hS, d, ⟨hi, hd⟩, hl⟩
    · have h := run_endLoop (P := P) hl (by rw [hmk]; simp)
      rw [hmk] at h
      exact ⟨none, _, h, hdone xs _ hS (hI.putObj _ hi (Nat.le_succ _) hl rfl) ((World.putObj_heap_other (by omega)).trans hd)⟩
    · have h := run_endLoop (P := P) hl (by rw [hmk]; simp)
      rw [hmk] at h
      exact ⟨some d, _, h, hstop d pre _ hS ((hIx d).putObj _ hi (Nat.le_succ _) hl rfl) ((World.putObj_heap_other (by omega)).trans hd)⟩
/-- the law of a loop within a round of the loop l0 -/
theorem wpIn_rangeMN {g : Operand} {ps : Array Tmp} {assign body : Code} {Q : Exit → Act → World → Prop} {a : Act} {w : World}
    {l0 : Nat} {r0 : Loop} (hro : F.round = some l0) (hl0 : w.heap[l0]? = some (.loop r0)) (h1 : 1 ≤ n) {gf : Nat} {lb : Array Value} (hg : a.eval g = .func (.func gf) #[] lb) (hFg : F.fn gf) (eg : ∀ args w, (callFunc gf args).run P w = .ok (.enter gf args) w)
    (hseq : SeqM F (n - 1) P gf lb encs Kp R S Sp N w0) (hb0 : Below w0.heap.size w0 w)
    (hKt : ∀ {A B C : World}, Kp (w.heap.size + 1) A B → Kp (w.heap.size + 1) B C → Kp (w.heap.size + 1) A C) (hKp : ∀ (W : World) (r r' : Loop), W.heap[w.heap.size]? = some (.loop r) → Kp (w.heap.size + 1) W (W.putObj (w.heap.size) (.loop r')))
    (hps : ∀ x, (encs x).size = ps.size)
    (I : List α → World → Prop) (Ix : Code → List α → World → Prop) (hI : OwnFrom w.heap.size I) (hIx : ∀ c, OwnFrom w.heap.size (Ix c)) (h0 : I [] w)
    (hround : ∀ (pre : List α) (x : α) (W : World), I pre W → R (pre ++ [x]) W → w.heap.size + 1 ≤ W.heap.size → (∃ r, W.heap[w.heap.size]? = some (.loop r)) → pre.length < N →
      assign.wpIn (F.inRound w.heap.size) (n - 1 - 1) P (Exit.then (fun a1 V => (KeepsFrom w.heap.size W V ∧ Kp (w.heap.size + 1) W V) ∧ ∀ r', body.wpIn (F.inRound w.heap.size) (n - 1 - 1) P (postM w.heap.size (Kp (w.heap.size + 1)) I Ix (pre ++ [x]) (V.putObj w.heap.size (.loop r'))) a1 (V.putObj w.heap.size (.loop r'))) (fun _ _ _ => False))
        { tmps := (ps.zip (encs x)).foldl (fun t (p, v) => t.setIfInBounds p v) a.tmps, defers := [] } W)
    (hdone : ∀ (xs : List α) (W : World), S xs → I xs W → Q .normal a W)
    (hstop : ∀ (c : Code) (pre : List α) (W : World), Sp pre → Ix c pre W → c.wpIn F n P Q a W) :
    (Code.rangeFunc g ps assign body).wpIn F n P Q a w := by
  refine wpIn_rangeFunc fun fn hfn => ?_
  rw [hro]
  obtain ⟨mk, hmk⟩ : ∃ mk : LoopState → Option Code → Loop, mk = fun s p => { state := s, pending := p, fn, tmps := a.tmps, params := ps, assign, body, defers := r0.defers } := ⟨_, rfl⟩
  obtain ⟨U, hU⟩ : ∃ U, w.alloc (.loop (mk .ready none)) = U := ⟨_, rfl⟩
  have hL : U.heap[w.heap.size]? = some (.loop (mk .ready none)) := by subst hU; exact World.alloc_heap_new w _
  have hIU : I [] U := by subst hU; exact hI.alloc _ h0
  have hbU : Below w0.heap.size w0 U := by subst hU; exact hb0.alloc hb0.size _
  have hsU : U.heap.size = w.heap.size + 1 := by subst hU; simp
  refine ⟨w.heap.size, [], U, { target := .fn (.func gf) lb, args := #[.func (.yield w.heap.size) #[] #[]] }, U, gf, #[.func (.yield w.heap.size) #[] #[]] ++ lb, U, ?_, ?_, ?_, ?_, fun _ => h1, ?_⟩
  · rw [← hU, hmk]; exact run_enterLoop_inner hl0 _ _ _ _ _
  · simp only [resolve, hg]; simp [go_sem]
  · intro f hf; simp [Target.leads] at hf; subst hf; exact hFg
  · simp [invoke, go_sem, eg]
  refine (rangeM_core hseq hbU (l := w.heap.size) (c := w.heap.size) (Nat.le_refl _) (by omega) (by rw [hsU]; exact hKt) (by rw [hsU]; exact hKp) mk hmk hfn hps I Ix (ownFrom_above hI (by omega)) (fun d => ownFrom_above (hIx d) (by omega))
    (fun xs W r r' h2 h3 => hI.putObj _ h2 (Nat.le_refl _) h3 rfl) (fun d xs W r r' h2 h3 => (hIx d).putObj _ h2 (Nat.le_refl _) h3 rfl) hIU hL (fun pre x W hi hx hsz hr hlen => by rw [hsU]; exact hround pre x W hi hx (by omega) hr hlen)).mono ?_
  rintro e V ⟨⟨v, rfl⟩, h⟩
  rcases h with ⟨xs, hS, hi, hl⟩ | ⟨pre, hS, d, hi, hl⟩
  · have h := run_endLoop (P := P) hl (by rw [hmk]; simp)
    rw [hmk] at h
    exact ⟨none, _, h, hdone xs _ hS (hI.putObj _ hi (Nat.le_refl _) hl rfl)⟩
  · have h := run_endLoop (P := P) hl (by rw [hmk]; simp)
    rw [hmk] at h
    exact ⟨some d, _, h, hstop d pre _ hS ((hIx d).putObj _ hi (Nat.le_refl _) hl rfl)⟩
end
end Go.Proofs.YtdegonmkikfghaaGreatDoor

/-
  nquads.lines' iterator once more: each round is told that what has come is a beginning of the lines. By an AI agent.
-/
namespace Go.Proofs.YtdegonmkikfghaaGreatDoor
open Go.RowKit Go.Shelf
set_option maxRecDepth 1000000
attribute [local go_sem] Oper.semAt_some

set_option maxHeartbeats 4000000 in
theorem linesM_in (n : Nat) (hn : 1 ≤ n) (ly Bn n₀ : Nat) (l : List UInt8) (a : Option Addr) (c : Nat) (J Jx : List (Nat × List UInt8) → World → Prop) (W : World) (hJ : AbidesFrom W.heap.size J) (hn₀ : n₀ ≤ W.heap.size)
    (hY : ∀ pre x W1, J pre W1 → pre.length < (linesL l 0).length → (pre ++ [x]) <+: linesL l 0 → YieldAt Fence.wide (n - 1) Tryz.prog ly (encL x) W1 fun e W' =>
      (e = .returned (.bool true) ∧ J (pre ++ [x]) W' ∧ KpB n₀ Bn (.cells #[.slice a l.length c] 25 (0, 0)) W1 W') ∨ (e = .returned (.bool false) ∧ Jx (pre ++ [x]) W'))
    (hB : W.heap[Bn]? = some (.cells #[.slice a l.length c] 25 (0, 0))) (hcap : l.length ≤ c) (hl : l.length ≤ 4611686018427387904)
    (hv : ∀ W', Below n₀ W W' → At W' a (l.map U8) ∧ UtAt W' ∧ MaxAt W') (h0 : J [] W) :
    CallsIn Fence.wide n Tryz.prog 69 #[.func (.yield ly) #[] #[], .pointer (some ⟨Bn, 0, none⟩)] W fun e W' => (∃ v, e = .returned v) ∧
      ((∃ ys, ys = linesL l 0 ∧ J ys W') ∨ (∃ pre, pre <+: linesL l 0 ∧ Jx pre W')) := by
  have HV := Lib.hid hv
  clear hv
  refine callsIn_of_wp Tryz.func69 rfl trivial ?_ rfl
  simp only [Tryz.ntmps69, List.size_toArray, List.length_cons, List.length_nil, Nat.reduceAdd, Nat.reduceSub, Array.replicate_succ, Array.replicate_zero, List.push_toArray, List.append_toArray, List.nil_append, List.cons_append]
  have B0 : Hid (Below n₀ W W) := Lib.hid (Below.refl _ _)
  have O0 := Lib.hid hB
  gi_wp2_with fail
  gi_loopw [3] (fun s wr => ∃ (i : Nat) (pre : List (Nat × List UInt8)), s = .int .i64 i ∧ i ≤ l.length + 1 ∧ Hid (linesL l 0 = pre ++ linesL l i) ∧ J pre wr ∧ Hid (Below n₀ W wr) ∧ Hid (wr.heap[Bn]? = some (.cells #[.slice a l.length c] 25 (0, 0)))) (fun s _ => l.length + 1 - (intOf s).toNat)
  case atStart => exact ⟨0, [], rfl, Nat.zero_le _, Lib.hid rfl, h0, B0, O0⟩
  case round =>
    obtain ⟨i, pre, rfl, hi, HL, hJp, HB, HO⟩ := hrel
    clear B0 O0 hB
    have cB : wr.cell? ⟨Bn, 0, none⟩ = some (.slice a l.length c) := by simp [World.cell?, HO.out]
    have lB : Bn < wr.heap.size := (Array.getElem?_eq_some_iff.1 HO.out).1
    by_cases hlt : i < l.length
    case neg =>
      have q8 : decide ((i : Int) < (l.length : Int)) = false := decide_eq_false (by omega)
      have q8n : decide (i < l.length) = false := decide_eq_false hlt
      have HE : Hid (pre = linesL l 0) := Lib.hid (by rw [HL.out, linesL_end (by omega), List.append_nil])
      have HJ := Lib.hid hJp
      clear HL hJp
      gi_wp2_with fail
      go_end0
      exact ⟨⟨_, rfl⟩, .inl ⟨_, HE.out, HJ.out⟩⟩
    have q8 : decide ((i : Int) < (l.length : Int)) = true := decide_eq_true (by omega)
    have q8n : decide (i < l.length) = true := decide_eq_true hlt
    have i0 : 0 ≤ (i : Int) := by omega
    have i2 : (i : Int) ≤ (l.length : Int) := by omega
    have hic : ¬ c = i := by omega
    have hic2 : i < c := by omega
    have hic3 : ¬ (c : Int) = (i : Int) := by omega
    obtain ⟨hA, hU, hM⟩ := HV.out wr HB.out
    obtain ⟨b, o, rfl⟩ := hA.place (by simp; omega)
    have he := eolI_drop l i hlt
    have hbd := eolF_bound l l.length i (by omega) (by omega)
    have IX0 := eol_l (l.drop i) b (o + i) (c - i) wr (at_drop hA i) (by simp; omega) (by simp; omega) (by simp; omega) hU hM
    rw [List.length_drop] at IX0
    have IX := Lib.hid IX0
    obtain ⟨m, hm⟩ : ∃ m : Nat, eolF l i = i + m := ⟨eolF l i - i, by omega⟩
    have hml : i + m ≤ l.length := by omega
    have hmz : i + m < l.length + 1 := by omega
    have HN : Hid (linesL l 0 = (pre ++ [(i, cutF l i (i + m))]) ++ linesL l (i + m + 1)) := Lib.hid (by rw [HL.out, linesL_step hlt, hm]; simp)
    have hlen : pre.length < (linesL l 0).length := by rw [HN.out]; simp
    have HL0 := Lib.hid hlen
    have HMEM : Hid ((pre ++ [(i, cutF l i (i + m))]) <+: linesL l 0) := Lib.hid (by rw [HN.out]; exact List.prefix_append _ _)
    have HHA := Lib.hid hA
    have HJ := Lib.hid hJp
    have CV := Lib.hid (fun (u : World) (h : Below wr.heap.size wr u) => conv_cut l b o i (c - i) u (hA.below h) hlt m hml)
    have m0 : 0 ≤ (i : Int) + (m : Int) := by omega
    have m1 : (i : Int) ≤ (i : Int) + (m : Int) := by omega
    have m2 : (i : Int) + (m : Int) ≤ (c : Int) := by omega
    have m3 : i ≤ i + m := by omega
    have m4 : i + m ≤ c := by omega
    rw [hm] at he
    clear hA hU hM IX0 hbd hlen hJp HL
    have STEP : Hid (∀ w2 : World, Below wr.heap.size wr w2 → J pre w2 ∧ Below n₀ W w2 ∧ w2.heap[Bn]? = some (.cells #[.slice (some ⟨b, o, none⟩) l.length c] 25 (0, 0)) ∧ w2.cell? ⟨Bn, 0, none⟩ = some (.slice (some ⟨b, o, none⟩) l.length c)) := Lib.hid (fun w2 h => by
      have h1 : w2.heap[Bn]? = some (.cells #[.slice (some ⟨b, o, none⟩) l.length c] 25 (0, 0)) := (h.block Bn lB).trans HO.out
      exact ⟨hJ _ _ _ none HJ.out (below_grown h none) (by simp), HB.out.trans (h.mono (Nat.le_trans hn₀ HB.out.size)), h1, by simp [World.cell?, h1]⟩)
    by_cases hend : i + m < l.length
    · rw [if_pos hend] at he
      have IX1 : Hid (Calls Tryz.prog 70 #[.slice (some ⟨b, o + i, none⟩) (l.length - i) (c - i), .string ⟨#[13, 10]⟩] wr fun e w' => e = .returned (.int .i64 (m : Int)) ∧ Below wr.heap.size wr w') := Lib.hid (by have h := IX.out; rw [he, show (((i + m : Nat) : Int) - (i : Int)) = (m : Int) by omega] at h; exact h)
      have q14 : decide ((m : Int) < 0) = false := decide_eq_false (by omega)
      clear IX he hend
      gi_wp2_with (refine ⟨trivial, ?_⟩; gi_at_call 70; refine (callsIn_wide.2 IX1.out).mono ?_; rintro e w2 ⟨rfl, hb2⟩; have hS := STEP.out w2 hb2; have hJ2 := hS.1; have HB2 := Lib.hid hS.2.1; have HO2 := Lib.hid hS.2.2.1; have cB2 := hS.2.2.2; have cv := CV.out w2 hb2; clear hS hb2; obtain ⟨fn, tmps, assign, body, hy, hR⟩ := hY pre (i, cutF l i (i + m)) w2 hJ2 HL0.out HMEM.out; dsimp only [encL] at hy; clear hJ2)
      refine hR.mono ?_
      rintro e W3 (⟨rfl, hJ3, hk3⟩ | ⟨rfl, hJx3⟩)
      · have HB3 := Lib.hid (HB2.out.trans hk3.1)
        have HO3 := Lib.hid (hk3.2 HO2.out)
        have HJ3 := Lib.hid hJ3
        clear hk3 hJ3
        gi_wp2_with fail
        go_roundw
        case rel => exact ⟨i + m + 1, _, by go_num, by omega, HN, HJ3.out, HB3, HO3⟩
        case measure => simp [intOf]; omega
      · gi_wp2_with fail
        refine bodyPost_ret (results_none rfl _ _ _) rfl ?_
        exact ⟨⟨_, rfl⟩, .inr ⟨_, by rw [HN.out]; exact List.prefix_append _ _, hJx3⟩⟩
    · rw [if_neg hend] at he
      have IX1 : Hid (Calls Tryz.prog 70 #[.slice (some ⟨b, o + i, none⟩) (l.length - i) (c - i), .string ⟨#[13, 10]⟩] wr fun e w' => e = .returned (.int .i64 (-1)) ∧ Below wr.heap.size wr w') := Lib.hid (by have h := IX.out; rw [he] at h; exact h)
      have hmm : (l.length : Int) - (i : Int) = (m : Int) := by omega
      clear IX he hend
      gi_wp2_with (refine ⟨trivial, ?_⟩; gi_at_call 70; refine (callsIn_wide.2 IX1.out).mono ?_; rintro e w2 ⟨rfl, hb2⟩; have hS := STEP.out w2 hb2; have hJ2 := hS.1; have HB2 := Lib.hid hS.2.1; have HO2 := Lib.hid hS.2.2.1; have cB2 := hS.2.2.2; have cv := CV.out w2 hb2; clear hS hb2; obtain ⟨fn, tmps, assign, body, hy, hR⟩ := hY pre (i, cutF l i (i + m)) w2 hJ2 HL0.out HMEM.out; dsimp only [encL] at hy; clear hJ2)
      refine hR.mono ?_
      rintro e W3 (⟨rfl, hJ3, hk3⟩ | ⟨rfl, hJx3⟩)
      · have HB3 := Lib.hid (HB2.out.trans hk3.1)
        have HO3 := Lib.hid (hk3.2 HO2.out)
        have HJ3 := Lib.hid hJ3
        clear hk3 hJ3
        gi_wp2_with fail
        go_roundw
        case rel => exact ⟨i + m + 1, _, by go_num, by omega, HN, HJ3.out, HB3, HO3⟩
        case measure => simp [intOf]; omega
      · gi_wp2_with fail
        refine bodyPost_ret (results_none rfl _ _ _) rfl ?_
        exact ⟨⟨_, rfl⟩, .inr ⟨_, by rw [HN.out]; exact List.prefix_append _ _, hJx3⟩⟩
theorem lines_seq (n : Nat) (hn : 1 ≤ n) (Bn n₀ : Nat) (l : List UInt8) (a : Option Addr) (c : Nat) (w : World) (hn₀ : n₀ ≤ w.heap.size)
    (hB : w.heap[Bn]? = some (.cells #[.slice a l.length c] 25 (0, 0))) (hcap : l.length ≤ c) (hl : l.length ≤ 4611686018427387904) (hv : ∀ W', Below n₀ w W' → At W' a (l.map U8) ∧ UtAt W' ∧ MaxAt W') :
    SeqM Fence.wide n Tryz.prog 69 #[.pointer (some ⟨Bn, 0, none⟩)] encL (fun _ => KpB n₀ Bn (.cells #[.slice a l.length c] 25 (0, 0))) (fun ys _ => ys <+: linesL l 0) (fun ys => ys = linesL l 0) (fun pre => pre <+: linesL l 0) (linesL l 0).length w := fun ly J Jx W hW hJ _ hY h0 =>
  (linesM_in n hn ly Bn n₀ l a c (fun ys V => J ys V ∧ W.heap.size ≤ V.heap.size) Jx W
    (fun s U U' row ⟨hj, hs⟩ hg hr => ⟨hJ s U U' row hj hg (fun r e => by obtain ⟨h1, o, h2, h3⟩ := hr r e; exact ⟨h1, o, h2, Obj.not_cells_of_walk h3⟩), Nat.le_trans hs hg.size⟩) (Nat.le_trans hn₀ hW.size)
    (fun pre x W1 ⟨hj, hs⟩ hlt hm => (hY pre x W1 hj hm hs hlt).mono (fun e W' h => by
      rcases h with ⟨h1, h2, h3⟩ | ⟨h1, h2, _⟩
      · exact .inl ⟨h1, ⟨h2, Nat.le_trans hs h3.1.size⟩, h3⟩
      · exact .inr ⟨h1, h2⟩))
    ((hW.block Bn (Array.getElem?_eq_some_iff.1 hB).1).trans hB) hcap hl (fun W' h => hv W' ((hW.mono hn₀).trans h)) ⟨h0, Nat.le_refl _⟩).mono (fun e W' h => by
      refine ⟨h.1, ?_⟩
      rcases h.2 with ⟨ys, h1, h2, _⟩ | ⟨pre, h1, h2⟩
      · exact .inl ⟨ys, h1, h2⟩
      · exact .inr ⟨pre, h1, h2⟩)
end Go.Proofs.YtdegonmkikfghaaGreatDoor

/-
  What nquads.Each hands out, line by line: plain words and laws. By an AI agent.
-/
namespace Go.Proofs.YtdegonmkikfghaaGreatDoor
open Go.RowKit
set_option maxRecDepth 100000

def stepE (s : List QuadL × Option (Nat × Int)) (x : Nat × List UInt8) : List QuadL × Option (Nat × Int) := match s.2 with
  | some f => (s.1, some f)
  | none => match lineAt x.2 with
    | .inr f => (s.1, some (x.1 + f.1, f.2))
    | .inl none => (s.1, none)
    | .inl (some q) => (s.1 ++ [q], none)
def readE (pre : List (Nat × List UInt8)) : List QuadL × Option (Nat × Int) := pre.foldl stepE ([], none)
def wantE (l : List UInt8) : List QuadL := (eachF l 0).1.map (·.2)
def errE (l : List UInt8) : Option (Nat × Int) := (eachF l 0).2
theorem readE_snoc (pre : List (Nat × List UInt8)) (x : Nat × List UInt8) : readE (pre ++ [x]) = stepE (readE pre) x := by unfold readE; rw [List.foldl_append]; rfl
theorem readE_none {pre : List (Nat × List UInt8)} {x : Nat × List UInt8} {qs : List QuadL} (h : readE pre = (qs, none)) (hx : lineAt x.2 = .inl none) : readE (pre ++ [x]) = (qs, none) := by rw [readE_snoc, h]; simp only [stepE, hx]
theorem readE_some {pre : List (Nat × List UInt8)} {x : Nat × List UInt8} {qs : List QuadL} {q : QuadL} (h : readE pre = (qs, none)) (hx : lineAt x.2 = .inl (some q)) : readE (pre ++ [x]) = (qs ++ [q], none) := by rw [readE_snoc, h]; simp only [stepE, hx]
theorem readE_bad {pre : List (Nat × List UInt8)} {x : Nat × List UInt8} {qs : List QuadL} {p : Nat} {e : Int} (h : readE pre = (qs, none)) (hx : lineAt x.2 = .inr (p, e)) : readE (pre ++ [x]) = (qs, some (x.1 + p, e)) := by rw [readE_snoc, h]; simp only [stepE, hx]
theorem stepE_stuck : ∀ (r : List (Nat × List UInt8)) (a : List QuadL) (f : Nat × Int), r.foldl stepE (a, some f) = (a, some f)
  | [], _, _ => rfl
  | _ :: r, a, f => stepE_stuck r a f
theorem stepE_more : ∀ (r : List (Nat × List UInt8)) (s : List QuadL × Option (Nat × Int)), s.1 <+: (r.foldl stepE s).1
  | [], _ => List.prefix_refl _
  | x :: r, s => by
    rw [List.foldl_cons]
    refine List.IsPrefix.trans ?_ (stepE_more r (stepE s x))
    unfold stepE
    split
    · exact List.prefix_refl _
    · split
      · exact List.prefix_refl _
      · exact List.prefix_refl _
      · exact List.prefix_append _ _
theorem readE_lines (l : List UInt8) : ∀ (k i : Nat) (a : List QuadL), l.length - i ≤ k → (linesL l i).foldl stepE (a, none) = (a ++ (eachF l i).1.map (·.2), (eachF l i).2)
  | k, i, a, hk => by
    by_cases h : l.length ≤ i
    · rw [linesL_end h, eachF_end h]; simp
    have hge := eolF_ge l i
    match k, hk with
    | 0, hk => omega
    | k + 1, hk =>
      have ih := fun a => readE_lines l k (eolF l i + 1) a (by omega)
      rw [linesL_step (by omega), List.foldl_cons]
      obtain ⟨y, hy⟩ : ∃ y, lineAt (cutF l i (eolF l i)) = y := ⟨_, rfl⟩
      rcases y with (_ | q) | ⟨p, e⟩
      · rw [eachF_none (by omega) hy, show stepE (a, none) (i, cutF l i (eolF l i)) = (a, none) by simp only [stepE, hy], ih]
      · rw [eachF_some (by omega) hy, show stepE (a, none) (i, cutF l i (eolF l i)) = (a ++ [q], none) by simp only [stepE, hy], ih]
        simp
      · rw [eachF_bad (by omega) hy, show stepE (a, none) (i, cutF l i (eolF l i)) = (a, some (i + p, e)) by simp only [stepE, hy], stepE_stuck]
        simp
theorem readE_whole (l : List UInt8) : readE (linesL l 0) = (wantE l, errE l) := by
  unfold readE
  rw [readE_lines l l.length 0 [] (by omega)]
  rfl
theorem readE_rest {l : List UInt8} {pre : List (Nat × List UInt8)} (hp : pre <+: linesL l 0) : (readE pre).1 <+: wantE l ∧ (∀ f, (readE pre).2 = some f → (readE pre).1 = wantE l ∧ errE l = some f) := by
  obtain ⟨r, hr⟩ := hp
  have hw := readE_whole l
  rw [← hr] at hw
  have h1 : readE (pre ++ r) = r.foldl stepE (readE pre) := by unfold readE; rw [List.foldl_append]
  rw [h1] at hw
  refine ⟨?_, fun f hf => ?_⟩
  · have := stepE_more r (readE pre)
    rw [hw] at this
    exact this
  · have e : readE pre = ((readE pre).1, some f) := by rw [← hf]
    rw [e, stepE_stuck] at hw
    exact ⟨congrArg Prod.fst hw, (congrArg Prod.snd hw).symm⟩
theorem each_next {l : List UInt8} {pre : List (Nat × List UInt8)} {x : Nat × List UInt8} {qs : List QuadL} {q : QuadL} (h : readE pre = (qs, none)) (hx : lineAt x.2 = .inl (some q)) (hp : (pre ++ [x]) <+: linesL l 0) : ∃ t, wantE l = qs ++ q :: t := by
  have := (readE_rest hp).1
  rw [readE_some h hx] at this
  obtain ⟨t, ht⟩ := this
  exact ⟨t, by rw [← ht]; simp⟩
theorem each_last {l : List UInt8} {pre : List (Nat × List UInt8)} {x : Nat × List UInt8} {qs : List QuadL} {p : Nat} {e : Int} (h : readE pre = (qs, none)) (hx : lineAt x.2 = .inr (p, e)) (hp : (pre ++ [x]) <+: linesL l 0) : wantE l = qs ∧ errE l = some (x.1 + p, e) := by
  have := (readE_rest hp).2 (x.1 + p, e)
  rw [readE_bad h hx] at this
  obtain ⟨h1, h2⟩ := this rfl
  exact ⟨h1.symm, h2⟩
theorem each_all {l : List UInt8} {qs : List QuadL} (h : readE (linesL l 0) = (qs, none)) : wantE l = qs ∧ errE l = none := by
  rw [readE_whole] at h
  exact ⟨congrArg Prod.fst h, congrArg Prod.snd h⟩
/-- how many come -/
def countE (l : List UInt8) : Nat := (wantE l).length + (if (errE l).isSome then 1 else 0)
theorem countE_ok {l : List UInt8} (h : errE l = none) : countE l = (wantE l).length := by unfold countE; rw [h]; rfl
theorem countE_bad {l : List UInt8} {f : Nat × Int} (h : errE l = some f) : countE l = (wantE l).length + 1 := by unfold countE; rw [h]; rfl
/-- what comes at a place -/
def RowE (l : List UInt8) (W : World) (n : Nat) (x : QuadL × Value) : Prop := (∃ h : n < (wantE l).length, x.1 = (wantE l)[n] ∧ x.2 = .nilIface) ∨ (n = (wantE l).length ∧ x.1 = noQuad ∧ ∃ p e, errE l = some (p, e) ∧ ErrIs W x.2 (.inr (p, e)))
def EachR (l : List UInt8) (xs : List (QuadL × Value)) (W : World) : Prop := ∃ pre x, xs = pre ++ [x] ∧ RowE l W pre.length x
theorem EachR.row {l : List UInt8} {pre : List (QuadL × Value)} {x : QuadL × Value} {W : World} (h : EachR l (pre ++ [x]) W) : RowE l W pre.length x := by
  obtain ⟨pre', x', he, h⟩ := h
  obtain ⟨rfl, h2⟩ := List.append_inj' he rfl
  cases h2
  exact h
theorem each_row {l : List UInt8} {qs t : List QuadL} {q : QuadL} {W : World} (h : wantE l = qs ++ q :: t) : EachR l (qs.map (fun q => (q, Value.nilIface)) ++ [(q, .nilIface)]) W :=
  ⟨_, _, rfl, .inl ⟨by rw [h]; simp, by simp [h], rfl⟩⟩
theorem each_rowbad {l : List UInt8} {qs : List QuadL} {ev : Value} {p : Nat} {e : Int} {W : World} (h : wantE l = qs) (he : errE l = some (p, e)) (hv : ErrIs W ev (.inr (p, e))) : EachR l (qs.map (fun q => (q, Value.nilIface)) ++ [(noQuad, ev)]) W :=
  ⟨_, _, rfl, .inr ⟨by rw [h]; simp, rfl, p, e, he, hv⟩⟩
end Go.Proofs.YtdegonmkikfghaaGreatDoor

/-
  nquads.Each and the function that it hands out: the contract of an iterator whose rounds are told what comes. By an AI agent.
-/
namespace Go.Proofs.YtdegonmkikfghaaGreatDoor
open Go.RowKit Go.Shelf
set_option maxRecDepth 1000000
theorem wide_fn (f : FuncId) : Fence.wide.fn f = True := rfl
attribute [local go_sem] Oper.semAt_some wide_fn

theorem keeps_belowE {W W' : World} (h : Below W.heap.size W W') : KeepsOthers W W' := ⟨h.size, fun k _o hk _ => (h.block k (Array.getElem?_eq_some_iff.1 hk).1).trans hk⟩
theorem boxed_belowE {W W' : World} {B : Nat} {t : TypeId} {v : Value} (h : Boxed W B t v) (hb : Below W.heap.size W W') : Boxed W' B t v := (hb.block B h.lt).trans h
theorem boxed_keptE {X Y : World} {row : Option Nat} {B : Nat} {t : TypeId} {v : Value} (h : Boxed X B t v) (hg : X.grownBy Y row) (hr : ∀ r, row = some r → ∃ o : Obj, X.heap[r]? = some o ∧ o.isCells = false) : Boxed Y B t v :=
  h.kept hg (fun e => by obtain ⟨o, ho, hc⟩ := hr B e.symm; rw [show X.heap[B]? = _ from h] at ho; cases ho; cases hc)
/-- a quad loaded whole, within a fence -/
theorem wpListIn_load_quadE {F : Fence} {n : Nat} {ops : Array Oper} {rest : List Oper} {o : Oper} {a : Act} {w : World} {Q : Exit → Act → World → Prop} (hgd : o.guard = none) (x : Operand) (ho : o.op = .load 36 x)
    (b k : Nat) (hx : a.eval x = .pointer (some ⟨b, k, none⟩)) (q : QuadL) (hr : w.rangeAt b k (quadC q)) (h : wpListIn F n Tryz.prog ops Q rest (a.put o.dst (qv q)) w) : wpListIn F n Tryz.prog ops Q (o :: rest) a w := by
  refine wpListIn_plain hgd fun K hK => ?_
  have hl : (Instr.loadAt 36 (.pointer (some ⟨b, k, none⟩))).run Tryz.prog w = .ok (qv q) w := run_loadAt_mid w b k _ (quadC q) _ hr Tryz.underlying36 rfl (by kernel_rfl)
  unfold Oper.wpIn
  refine ⟨?_, ?_⟩
  · simp [Oper.about, ho]
  · rw [Oper.semAt_plain F _ _ (by rw [ho]; intro c hc'; cases hc')]
    simp only [execOp, ho, hx, Sem.run_bind, hl, Result.andThen_ok, Sem.run_pure]
    exact hK _ _ h
def firstRangeE : Code → Option Code
  | .rangeFunc g ps a b => some (.rangeFunc g ps a b)
  | .loop c => firstRangeE c
  | .seq a b => match firstRangeE a with
    | some c => some c
    | none => firstRangeE b
  | .block _ c => firstRangeE c
  | .scope c => firstRangeE c
  | .cond _ a b => match firstRangeE a with
    | some c => some c
    | none => firstRangeE b
  | _ => none
def rangePartsE : Code → Option (Code × Code)
  | .rangeFunc _ _ a b => some (a, b)
  | _ => none
abbrev encE (x : QuadL × Value) : Array Value := #[qv x.1, x.2]
theorem roundIn_wide {n m lr l : Nat} {P : Program} {f : FuncId} {tmps : Array Value} {assign body : Code} {w : World} {R : Ending → World → Prop} (h : RoundIn Fence.wide n P l f tmps assign body w R) : RoundIn (Fence.wide.inRound lr) m P l f tmps assign body w R :=
  ⟨h.1, fun c cs _ => h.2 c cs (room_wide _)⟩
/-- a scope that no goto goes through -/
theorem scope_wide {n : Nat} {P : Program} {c : Code} {Q : Exit → Act → World → Prop} {a : Act} {w : World} (h : c.wpIn Fence.wide n P (Exit.noGoto Q) a w) : (Code.scope c).wpIn Fence.wide n P Q a w := wpIn_wide.2 (wp_scope_straight (wpIn_wide.1 h))
set_option maxHeartbeats 400000 in
theorem nqEach_in (n : Nat) (a : Option Addr) (k c : Nat) (w : World) :
    CallsIn Fence.wide n Tryz.prog 23 #[.slice a k c] w fun e w' => e = .returned (.func (.func 44) #[] #[.pointer (some ⟨w.heap.size, 0, none⟩)]) ∧ w' = w.alloc (.cells #[.slice a k c] 25) := by
  refine callsIn_of_wp Tryz.func23 rfl trivial ?_ rfl
  simp only [Tryz.ntmps23, List.size_toArray, List.length_cons, List.length_nil, Nat.reduceAdd, Nat.reduceSub, Array.replicate_succ, Array.replicate_zero, List.push_toArray, List.append_toArray, List.nil_append, List.cons_append]
  gi_wp2
  go_ret
  exact ⟨rfl, rfl⟩
/-- between two lines -/
structure EaIn (l : List UInt8) (ly n0 g2 gs : Nat) (J : List (QuadL × Value) → World → Prop) (W : World) (pre : List (Nat × List UInt8)) (qs : List QuadL) (V : World) : Prop where
  rd : readE pre = (qs, none)
  j : J (qs.map (fun q => (q, Value.nilIface))) V
  b2 : Boxed V g2 90 (.func (.yield ly) #[] #[])
  sz : gs < V.heap.size
  bw : Below n0 W V
def EaI (l : List UInt8) (ly n0 g2 gs : Nat) (J : List (QuadL × Value) → World → Prop) (W : World) (pre : List (Nat × List UInt8)) (V : World) : Prop := ∃ qs, EaIn l ly n0 g2 gs J W pre qs V
/-- how it ends -/
def EaEnd (l : List UInt8) (J Jx : List (QuadL × Value) → World → Prop) (V : World) : Prop := (∃ xs, xs.length = countE l ∧ J xs V) ∨ (∃ xs, xs.length ≤ countE l ∧ Jx xs V)
def EaX (l : List UInt8) (J Jx : List (QuadL × Value) → World → Prop) (d : Code) (_ : List (Nat × List UInt8)) (V : World) : Prop := d = .exit 0 ∧ EaEnd l J Jx V
theorem EaIn.below {l : List UInt8} {ly n0 g2 gs m : Nat} {J : List (QuadL × Value) → World → Prop} {W V V' : World} {pre pre' : List (Nat × List UInt8)} {qs : List QuadL} (h : EaIn l ly n0 g2 gs J W pre qs V) (hJ : OwnFrom m J) (hn : n0 ≤ W.heap.size) (hb : Below V.heap.size V V') (hp : readE pre' = (qs, none)) : EaIn l ly n0 g2 gs J W pre' qs V' :=
  ⟨hp, hJ _ _ _ none h.j (below_grown hb none) (by simp), boxed_belowE h.b2 hb, Nat.lt_of_lt_of_le h.sz hb.size, h.bw.trans (hb.mono (Nat.le_trans hn h.bw.size))⟩
theorem eaI_own {l : List UInt8} {ly n0 g2 gs m b : Nat} {J : List (QuadL × Value) → World → Prop} {W : World} (hJ : OwnFrom m J) (hm : m ≤ b) (hn : n0 ≤ W.heap.size) (hnb : n0 ≤ b) : OwnFrom b (EaI l ly n0 g2 gs J W) := by
  rintro pre X Y row ⟨qs, h⟩ hg hr
  exact ⟨qs, h.rd, hJ _ X Y row h.j hg (fun r e => ⟨Nat.le_trans hm (hr r e).1, (hr r e).2⟩), boxed_keptE h.b2 hg (fun r e => (hr r e).2), Nat.lt_of_lt_of_le h.sz hg.size, h.bw.grown hg (Nat.le_trans hn h.bw.size) (fun k e => Nat.le_trans hnb (hr k e).1)⟩
theorem eaX_own {l : List UInt8} {m b : Nat} {J Jx : List (QuadL × Value) → World → Prop} (hJ : OwnFrom m J) (hJx : OwnFrom m Jx) (hm : m ≤ b) (d : Code) : OwnFrom b (EaX l J Jx d) := by
  rintro pre X Y row ⟨h1, h2⟩ hg hr
  have hr' : ∀ r, row = some r → m ≤ r ∧ ∃ o : Obj, X.heap[r]? = some o ∧ o.isCells = false := fun r e => ⟨Nat.le_trans hm (hr r e).1, (hr r e).2⟩
  refine ⟨h1, ?_⟩
  rcases h2 with ⟨xs, h3, h4⟩ | ⟨xs, h3, h4⟩
  · exact .inl ⟨xs, h3, hJ xs X Y row h4 hg hr'⟩
  · exact .inr ⟨xs, h3, hJx xs X Y row h4 hg hr'⟩
noncomputable def eachBody : Code := ((rangePartsE ((Tryz.f44.body.bind firstRangeE).getD .skip)).getD (.skip, .skip)).2
theorem EaIn.kept {l : List UInt8} {ly n0 g2 gs m : Nat} {J : List (QuadL × Value) → World → Prop} {W V V' : World} {pre pre' : List (Nat × List UInt8)} {qs qs' : List QuadL} (h : EaIn l ly n0 g2 gs J W pre qs V) (hk : KpM n0 m V V') (h2 : m ≤ g2) (hp : readE pre' = (qs', none)) (hj : J (qs'.map (fun q => (q, Value.nilIface))) V') : EaIn l ly n0 g2 gs J W pre' qs' V' :=
  ⟨hp, hj, (hk.hi g2 h2 h.b2.lt).trans h.b2, Nat.lt_of_lt_of_le h.sz hk.lo.size, h.bw.trans hk.lo⟩
/-- what a call of yield comes to -/
def EaY (n0 m : Nat) (J Jx : List (QuadL × Value) → World → Prop) (xs : List (QuadL × Value)) (V : World) (b : Bool) (V' : World) : Prop := KpM n0 m V V' ∧ (b = true → J xs V') ∧ (b = false → Jx xs V')
/-- the rounds' own words -/
structure EaCtx (l : List UInt8) (ly n0 m g2 gs : Nat) (J Jx : List (QuadL × Value) → World → Prop) (W : World) : Prop where
  y : ∀ pre x V, J pre V → EachR l (pre ++ [x]) V → m ≤ V.heap.size → pre.length < countE l → ∀ lr k, ∃ fn tmps assign body, (Instr.yield ly (encE x)).run Tryz.prog V = .ok (.round ly fn tmps assign body) V ∧ RoundIn (Fence.wide.inRound lr) k Tryz.prog ly fn tmps assign body V fun e V' => ∃ b, e = .returned (.bool b) ∧ EaY n0 m J Jx (pre ++ [x]) V b V'
  jo : OwnFrom m J
  tab : ∀ V, Below n0 W V → TabAt V ∧ MaxAt V ∧ ErrType V
  hn : n0 ≤ W.heap.size
  hm : m ≤ W.heap.size
  nm : n0 ≤ m
  h2 : m ≤ g2
  hs : m ≤ gs
set_option maxHeartbeats 2000000 in
theorem ea_none (n : Nat) (hn : 3 ≤ n) (l : List UInt8) (a : Option Addr) (c ly n0 m b gb g2 gs : Nat) (J Jx : List (QuadL × Value) → World → Prop) (W : World) (C : EaCtx l ly n0 m g2 gs J Jx W) (_hb : m ≤ b) (_hgs : gs < b) (lr : Nat) (pre : List (Nat × List UInt8)) (x : Nat × List UInt8) (qs : List QuadL) (V : World) (P : EaIn l ly n0 g2 gs J W pre qs V) (_hp : (pre ++ [x]) <+: linesL l 0) (_hx1 : x.1 ≤ 67108864) (hx2 : x.2.length ≤ 16777216) (hx : lineAt x.2 = .inl none) :
    eachBody.wpIn (Fence.wide.inRound lr) (n - 1 - 1) Tryz.prog (postM b (KpB n0 gs (.cells #[.slice a l.length c] 25 (0, 0))) (EaI l ly n0 g2 gs J W) (EaX l J Jx) (pre ++ [x]) V) { tmps := #[.func (.yield ly) #[] #[], .pointer (some ⟨gb, 0, none⟩), .pointer (some ⟨g2, 0, none⟩), .int .i64 (x.1 : Int), .string (B x.2), undef, undef, undef, .slice a l.length c, .int .i64 (l.length : Int), .bool false, undef, undef, undef, undef, .slice a l.length c, .func (.func 69) #[] #[.pointer (some ⟨gs, 0, none⟩)], .int .i64 (x.1 : Int), .string (B x.2), undef, undef, undef, undef, undef, undef, undef, undef, undef, undef, undef, undef, undef, undef, undef, undef, undef, undef, undef, undef, undef, undef, undef], defers := [] } V := by
  have hnm := C.nm
  have hC2 := C.h2
  have hCs := C.hs
  have hmW := C.hm
  have hWV := P.bw.size
  have hn1 : 1 ≤ n - 1 - 1 := by omega
  have LN0 := line_l x.2 V (C.tab V P.bw).1 (C.tab V P.bw).2.1 hx2
  rw [hx] at LN0
  have LN := Lib.hid LN0
  have HRD : Hid (readE (pre ++ [x]) = (qs, none)) := Lib.hid (readE_none P.rd hx)
  have PP := Lib.hid P
  have CC := Lib.hid C
  clear LN0 hx P C
  conv => arg 4; whnf
  gi_wp2_with (first
    | (gi_at_call 38; refine (CallsIn.inRound lr (callsIn_wide.2 LN.out)).mono ?_; rintro e w3 ⟨rfl, hb3⟩; have B3 := Lib.hid hb3; have hbs := hb3.size; clear hb3))
  have hBB := B3.out.alloc hbs (.cells #[.int .i64 noQuad.s.kind, .string (B noQuad.s.text), .string (B noQuad.s.type), .string (B noQuad.s.lang), .int .i64 noQuad.p.kind, .string (B noQuad.p.text), .string (B noQuad.p.type), .string (B noQuad.p.lang), .int .i64 noQuad.o.kind, .string (B noQuad.o.text), .string (B noQuad.o.type), .string (B noQuad.o.lang), .int .i64 noQuad.g.kind, .string (B noQuad.g.text), .string (B noQuad.g.type), .string (B noQuad.g.lang)] 36)
  refine ⟨(keeps_belowE hBB).from _, ⟨hBB.mono (by omega), fun h => (hBB.block gs PP.out.sz).trans h⟩, ⟨qs, PP.out.below CC.out.jo CC.out.hn hBB HRD.out⟩⟩
set_option maxHeartbeats 2000000 in
theorem ea_some (n : Nat) (hn : 3 ≤ n) (l : List UInt8) (a : Option Addr) (c ly n0 m b gb g2 gs : Nat) (J Jx : List (QuadL × Value) → World → Prop) (W : World) (C : EaCtx l ly n0 m g2 gs J Jx W) (hb : m ≤ b) (_hgs : gs < b) (lr : Nat) (pre : List (Nat × List UInt8)) (x : Nat × List UInt8) (qs : List QuadL) (V : World) (P : EaIn l ly n0 g2 gs J W pre qs V) (hp : (pre ++ [x]) <+: linesL l 0) (_hx1 : x.1 ≤ 67108864) (hx2 : x.2.length ≤ 16777216) (q : QuadL) (hx : lineAt x.2 = .inl (some q)) :
    eachBody.wpIn (Fence.wide.inRound lr) (n - 1 - 1) Tryz.prog (postM b (KpB n0 gs (.cells #[.slice a l.length c] 25 (0, 0))) (EaI l ly n0 g2 gs J W) (EaX l J Jx) (pre ++ [x]) V) { tmps := #[.func (.yield ly) #[] #[], .pointer (some ⟨gb, 0, none⟩), .pointer (some ⟨g2, 0, none⟩), .int .i64 (x.1 : Int), .string (B x.2), undef, undef, undef, .slice a l.length c, .int .i64 (l.length : Int), .bool false, undef, undef, undef, undef, .slice a l.length c, .func (.func 69) #[] #[.pointer (some ⟨gs, 0, none⟩)], .int .i64 (x.1 : Int), .string (B x.2), undef, undef, undef, undef, undef, undef, undef, undef, undef, undef, undef, undef, undef, undef, undef, undef, undef, undef, undef, undef, undef, undef, undef], defers := [] } V := by
  have hnm := C.nm
  have hC2 := C.h2
  have hCs := C.hs
  have hmW := C.hm
  have hWV := P.bw.size
  have hn1 : 1 ≤ n - 1 - 1 := by omega
  have LN0 := line_l x.2 V (C.tab V P.bw).1 (C.tab V P.bw).2.1 hx2
  rw [hx] at LN0
  have LN := Lib.hid LN0
  have HRD : Hid (readE (pre ++ [x]) = (qs ++ [q], none)) := Lib.hid (readE_some P.rd hx)
  obtain ⟨t, ht⟩ := each_next P.rd hx hp
  have HT := Lib.hid ht
  have HLT : Hid (qs.length < countE l) := Lib.hid (by unfold countE; rw [ht]; simp; omega)
  have PP := Lib.hid P
  have CC := Lib.hid C
  clear LN0 hx P C ht
  conv => arg 4; whnf
  gi_wp2_with (first
    | (gi_at_call 38; refine (CallsIn.inRound lr (callsIn_wide.2 LN.out)).mono ?_; rintro e w3 ⟨rfl, hb3⟩; have B3 := Lib.hid hb3; have hbs := hb3.size; have hBA := hb3.alloc hbs (.cells #[.int .i64 q.s.kind, .string (B q.s.text), .string (B q.s.type), .string (B q.s.lang), .int .i64 q.p.kind, .string (B q.p.text), .string (B q.p.type), .string (B q.p.lang), .int .i64 q.o.kind, .string (B q.o.text), .string (B q.o.type), .string (B q.o.lang), .int .i64 q.g.kind, .string (B q.g.text), .string (B q.g.type), .string (B q.g.lang)] 36); have P4 := Lib.hid (PP.out.below (pre' := pre) CC.out.jo CC.out.hn hBA PP.out.rd); have c2 := P4.out.b2.cell; have l2 := P4.out.b2.lt; have hms : m ≤ (w3.alloc (.cells #[.int .i64 q.s.kind, .string (B q.s.text), .string (B q.s.type), .string (B q.s.lang), .int .i64 q.p.kind, .string (B q.p.text), .string (B q.p.type), .string (B q.p.lang), .int .i64 q.o.kind, .string (B q.o.text), .string (B q.o.type), .string (B q.o.lang), .int .i64 q.g.kind, .string (B q.g.text), .string (B q.g.type), .string (B q.g.lang)] 36)).heap.size := Nat.le_trans (Nat.le_trans hmW (Nat.le_trans hWV hbs)) (by simp); obtain ⟨fn, tmps, assign, body, hy, hR⟩ := CC.out.y _ (q, .nilIface) _ P4.out.j (each_row HT.out) hms (by rw [List.length_map]; exact HLT.out) lr (n - 1 - 1 - 1); dsimp only [encE] at hy; have HR := Lib.hid hR; clear hR hBA; clear hb3)
    | (refine wpListIn_load_quadE rfl (.tmp 5) rfl w3.heap.size 0 rfl q (range_row (World.alloc_heap_new w3 _)) ?_))
  have hbs := B3.out.size
  have hBA := B3.out.alloc hbs (.cells #[.int .i64 q.s.kind, .string (B q.s.text), .string (B q.s.type), .string (B q.s.lang), .int .i64 q.p.kind, .string (B q.p.text), .string (B q.p.type), .string (B q.p.lang), .int .i64 q.o.kind, .string (B q.o.text), .string (B q.o.type), .string (B q.o.lang), .int .i64 q.g.kind, .string (B q.g.text), .string (B q.g.type), .string (B q.g.lang)] 36)
  refine HR.out.mono ?_
  rintro e V' ⟨b', rfl, hk, h1, h2⟩
  have hKF : KeepsFrom b V V' := ((keeps_belowE hBA).from b).trans ((hk.mono hb).from)
  have hKB : KpB n0 gs (.cells #[.slice a l.length c] 25 (0, 0)) V V' := ⟨(hBA.mono (by omega)).trans hk.lo, fun h => (hk.hi gs hCs (Nat.lt_of_lt_of_le PP.out.sz hBA.size)).trans ((hBA.block gs PP.out.sz).trans h)⟩
  have P4 := Lib.hid (PP.out.below (pre' := pre) CC.out.jo CC.out.hn hBA PP.out.rd)
  have HH := Lib.hid (And.intro hk (And.intro hKF hKB))
  have E1 := Lib.hid h1
  have E2 := Lib.hid h2
  clear hk hKF hKB h1 h2 hBA
  cases b' with
  | true =>
    have F1 := Lib.hid (E1.out rfl)
    clear E1 E2
    gi_wp2_with fail
    exact ⟨HH.out.2.1, HH.out.2.2, qs ++ [q], P4.out.kept HH.out.1 hC2 HRD.out (by rw [List.map_append]; exact F1.out)⟩
  | false =>
    have F2 := Lib.hid (E2.out rfl)
    clear E1 E2
    gi_wp2_with fail
    exact ⟨HH.out.2.1, HH.out.2.2, rfl, .inr ⟨_, by rw [List.length_append, List.length_map]; exact HLT.out, F2.out⟩⟩
set_option maxHeartbeats 2000000 in
theorem ea_bad (n : Nat) (hn : 3 ≤ n) (l : List UInt8) (a : Option Addr) (c ly n0 m b gb g2 gs : Nat) (J Jx : List (QuadL × Value) → World → Prop) (W : World) (C : EaCtx l ly n0 m g2 gs J Jx W) (hb : m ≤ b) (_hgs : gs < b) (lr : Nat) (pre : List (Nat × List UInt8)) (x : Nat × List UInt8) (qs : List QuadL) (V : World) (P : EaIn l ly n0 g2 gs J W pre qs V) (hp : (pre ++ [x]) <+: linesL l 0) (hx1 : x.1 ≤ 67108864) (hx2 : x.2.length ≤ 16777216) (p : Nat) (e : Int) (hx : lineAt x.2 = .inr (p, e)) :
    eachBody.wpIn (Fence.wide.inRound lr) (n - 1 - 1) Tryz.prog (postM b (KpB n0 gs (.cells #[.slice a l.length c] 25 (0, 0))) (EaI l ly n0 g2 gs J W) (EaX l J Jx) (pre ++ [x]) V) { tmps := #[.func (.yield ly) #[] #[], .pointer (some ⟨gb, 0, none⟩), .pointer (some ⟨g2, 0, none⟩), .int .i64 (x.1 : Int), .string (B x.2), undef, undef, undef, .slice a l.length c, .int .i64 (l.length : Int), .bool false, undef, undef, undef, undef, .slice a l.length c, .func (.func 69) #[] #[.pointer (some ⟨gs, 0, none⟩)], .int .i64 (x.1 : Int), .string (B x.2), undef, undef, undef, undef, undef, undef, undef, undef, undef, undef, undef, undef, undef, undef, undef, undef, undef, undef, undef, undef, undef, undef, undef], defers := [] } V := by
  have hnm := C.nm
  have hC2 := C.h2
  have hCs := C.hs
  have hmW := C.hm
  have hWV := P.bw.size
  have hn1 : 1 ≤ n - 1 - 1 := by omega
  have LN0 := line_l x.2 V (C.tab V P.bw).1 (C.tab V P.bw).2.1 hx2
  have hpl := (lineAt_bad hx).1
  rw [hx] at LN0
  have LN := Lib.hid LN0
  obtain ⟨hwl, hel⟩ := each_last P.rd hx hp
  have HWL := Lib.hid hwl
  have HEL := Lib.hid hel
  have HCL : Hid (qs.length + 1 = countE l) := Lib.hid (by rw [countE_bad hel, hwl])
  have MV := Lib.hid (fun (ev : Value) (u : World) (hu : Below n0 W u) (h : ErrIs u ev (.inr (p, e))) => nqMoved_l ev p x.1 e u (C.tab u hu).2.2 h (by omega))
  have PP := Lib.hid P
  have CC := Lib.hid C
  have mixed : Tryz.prog.follows .mixedOrders = true := by kernel_rfl
  clear LN0 hx P C hwl hel
  conv => arg 4; whnf
  gi_wp2_with (first
    | (gi_at_call 38; refine (CallsIn.inRound lr (callsIn_wide.2 LN.out)).mono ?_; rintro e3 w3 ⟨⟨eb, rfl, he⟩, hb3⟩; have HEV := Lib.hid he; have hbs := hb3.size; have BA := Lib.hid ((hb3.alloc hbs (.cells #[.int .i64 noQuad.s.kind, .string (B noQuad.s.text), .string (B noQuad.s.type), .string (B noQuad.s.lang), .int .i64 noQuad.p.kind, .string (B noQuad.p.text), .string (B noQuad.p.type), .string (B noQuad.p.lang), .int .i64 noQuad.o.kind, .string (B noQuad.o.text), .string (B noQuad.o.type), .string (B noQuad.o.lang), .int .i64 noQuad.g.kind, .string (B noQuad.g.text), .string (B noQuad.g.type), .string (B noQuad.g.lang)] 36)).drew); have P4 := Lib.hid (PP.out.below (pre' := pre) CC.out.jo CC.out.hn (hb3.alloc hbs (.cells #[.int .i64 noQuad.s.kind, .string (B noQuad.s.text), .string (B noQuad.s.type), .string (B noQuad.s.lang), .int .i64 noQuad.p.kind, .string (B noQuad.p.text), .string (B noQuad.p.type), .string (B noQuad.p.lang), .int .i64 noQuad.o.kind, .string (B noQuad.o.text), .string (B noQuad.o.type), .string (B noQuad.o.lang), .int .i64 noQuad.g.kind, .string (B noQuad.g.text), .string (B noQuad.g.type), .string (B noQuad.g.lang)] 36)) PP.out.rd); have c2 := P4.out.b2.cell; have l2 := P4.out.b2.lt; clear hb3 he))
  gi_region_with_o (first
    | (gi_at_call 46; refine (CallsIn.inRound lr (callsIn_wide.2 (MV.out _ _ (PP.out.bw.trans (BA.out.mono (by omega))) (HEV.out.below (((Below.refl _ _).alloc (Nat.le_refl _) _).drew))))).mono ?_; rintro e5 w5 ⟨⟨eb5, rfl, he5⟩, hb5⟩; have HE5 := Lib.hid he5; have B5 := Lib.hid (BA.out.trans (hb5.mono BA.out.size)); have P5 := Lib.hid (PP.out.below (pre' := pre) CC.out.jo CC.out.hn B5.out PP.out.rd); have k2 := P5.out.b2.cell; have hms : m ≤ w5.heap.size := Nat.le_trans (Nat.le_trans hmW hWV) B5.out.size; obtain ⟨fn, tmps, assign, body, hy, hR⟩ := CC.out.y _ (noQuad, _) _ P5.out.j (each_rowbad HWL.out HEL.out HE5.out) hms (by rw [List.length_map, ← HCL.out]; exact Nat.lt_succ_self _) lr (n - 1 - 1 - 1); replace hy : (Instr.yield ly #[.agg #[.int .i64 0, .string ⟨#[]⟩, .string ⟨#[]⟩, .string ⟨#[]⟩, .int .i64 0, .string ⟨#[]⟩, .string ⟨#[]⟩, .string ⟨#[]⟩, .int .i64 0, .string ⟨#[]⟩, .string ⟨#[]⟩, .string ⟨#[]⟩, .int .i64 0, .string ⟨#[]⟩, .string ⟨#[]⟩, .string ⟨#[]⟩], .iface 86 (.pointer (some ⟨eb5, 0, none⟩))]).run Tryz.prog w5 = .ok (.round ly fn tmps assign body) w5 := hy; have HR := Lib.hid hR; clear hR he5 hb5)
    | (refine ⟨fun _ => hn1, ?_⟩; refine HR.out.mono ?_; rintro e9 V9 ⟨b9, rfl, hE9⟩; have HE9 := Lib.hid hE9; clear hE9)
    | (refine HR.out.mono ?_; rintro e9 V9 ⟨b9, rfl, hE9⟩; have HE9 := Lib.hid hE9; clear hE9))
  all_goals (gi_wp2_with fail)
  all_goals (
    obtain ⟨hk, h1, h2⟩ := HE9.out
    refine ⟨((keeps_belowE B5.out).from b).trans ((hk.mono hb).from), ⟨(B5.out.mono (by omega)).trans hk.lo, fun h => (hk.hi gs hCs (Nat.lt_of_lt_of_le PP.out.sz B5.out.size)).trans ((B5.out.block gs PP.out.sz).trans h)⟩, rfl, ?_⟩
    cases b9 with
    | true => exact .inl ⟨_, by rw [List.length_append, List.length_map]; exact HCL.out, h1 rfl⟩
    | false => exact .inr ⟨_, by rw [List.length_append, List.length_map]; exact Nat.le_of_eq HCL.out, h2 rfl⟩)
set_option maxHeartbeats 4000000 in
theorem each_seq (n : Nat) (hn : 4 ≤ n) (l : List UInt8) (a : Option Addr) (c gb n0 : Nat) (w : World) (hl : l.length ≤ 1048576) (hc : l.length ≤ c) (hgb : gb < w.heap.size) (hn0 : n0 ≤ w.heap.size) (_hgn : gb < n0)
    (hB : w.heap[gb]? = some (.cells #[.slice a l.length c] 25 (0, 0))) (hv : ∀ V, Below n0 w V → At V a (l.map U8) ∧ TabAt V ∧ MaxAt V ∧ UtAt V ∧ ErrType V) :
    SeqM Fence.wide n Tryz.prog 44 #[.pointer (some ⟨gb, 0, none⟩)] encE (fun m => KpM n0 m) (EachR l) (fun xs => xs.length = countE l) (fun xs => xs.length ≤ countE l) (countE l) w := by
  intro ly J Jx W hW hJ hJx hY h0
  have e0 : decide ((67108864 : Int) < (l.length : Int)) = false := decide_eq_false (by omega)
  have h1n : 1 ≤ n := by omega
  have hBW : W.heap[gb]? = some (.cells #[.slice a l.length c] 25 (0, 0)) := (hW.block gb hgb).trans hB
  have cB : W.cell? ⟨gb, 0, none⟩ = some (.slice a l.length c) := by simp [World.cell?, hBW]
  have lB : gb < W.heap.size := (Array.getElem?_eq_some_iff.1 hBW).1
  have hnW : n0 ≤ W.heap.size := Nat.le_trans hn0 hW.size
  have HV : Hid (∀ V, Below n0 W V → At V a (l.map U8) ∧ TabAt V ∧ MaxAt V ∧ UtAt V ∧ ErrType V) := Lib.hid (fun V h => hv V ((hW.mono hn0).trans h))
  have HY := Lib.hid hY
  have HJ := Lib.hid hJ
  have HJx := Lib.hid hJx
  have H0 := Lib.hid h0
  clear hv hY hJ hJx h0 hB hBW hW
  refine callsIn_of_wp_marks Tryz.func44 rfl trivial ?_ rfl
  simp only [Tryz.ntmps44, List.size_toArray, List.length_cons, List.length_nil, Nat.reduceAdd, Nat.reduceSub, Array.replicate_succ, Array.replicate_zero, List.push_toArray, List.append_toArray, List.nil_append, List.cons_append]
  gi_wp2_with fail
  refine scope_wide ?_
  gi_wp2_with fail
  refine wpIn_label ?_
  gi_wp2_with (gi_at_call 45; refine (lines_in _ a l.length c _).mono ?_; rintro e w2 ⟨rfl, rfl⟩)
  have bW : Below W.heap.size W ((W.alloc (.cells #[.func (.yield ly) #[] #[]] 90)).alloc (.cells #[.slice a l.length c] 25)) := ((Below.refl _ W).alloc (Nat.le_refl _) _).alloc (by simp) _
  have x2 : Boxed ((W.alloc (.cells #[.func (.yield ly) #[] #[]] 90)).alloc (.cells #[.slice a l.length c] 25)) W.heap.size 90 (.func (.yield ly) #[] #[]) := (Boxed.new W 90 (.func (.yield ly) #[] #[])).alloc _
  have xs : ((W.alloc (.cells #[.func (.yield ly) #[] #[]] 90)).alloc (.cells #[.slice a l.length c] 25)).heap[W.heap.size + 1]? = some (.cells #[.slice a l.length c] 25 (0, 0)) := by
    have h := World.alloc_heap_new (W.alloc (.cells #[.func (.yield ly) #[] #[]] 90)) (.cells #[.slice a l.length c] 25)
    rwa [World.size_alloc] at h
  have zs : ((W.alloc (.cells #[.func (.yield ly) #[] #[]] 90)).alloc (.cells #[.slice a l.length c] 25)).heap.size = W.heap.size + 2 := by simp
  generalize hW0 : (W.alloc (.cells #[.func (.yield ly) #[] #[]] 90)).alloc (.cells #[.slice a l.length c] 25) = W0 at bW x2 xs zs ⊢
  clear hW0
  have J0 : J [] W0 := HJ.out _ _ _ none H0.out (below_grown bW none) (by simp)
  have C : EaCtx l ly n0 W.heap.size W.heap.size (W.heap.size + 1) J Jx W :=
    ⟨fun pre x V h1 h2 h3 h4 lr k => by
      obtain ⟨fn, tmps, assign, body, hy, hR⟩ := HY.out pre x V h1 h2 h3 h4
      refine ⟨fn, tmps, assign, body, hy, (roundIn_wide hR).mono ?_⟩
      rintro e V' (⟨rfl, h5, h6⟩ | ⟨rfl, h5, h6⟩)
      · exact ⟨true, rfl, h6, fun _ => h5, (fun h => by cases h)⟩
      · exact ⟨false, rfl, h6, (fun h => by cases h), fun _ => h5⟩,
     HJ.out, fun V h => ⟨(HV.out V h).2.1, (HV.out V h).2.2.1, (HV.out V h).2.2.2.2⟩, hnW, Nat.le_refl _, hnW, Nat.le_refl _, Nat.le_succ _⟩
  refine wpIn_rangeM (ps := #[17, 18]) (encs := encL) (Kp := fun _ => KpB n0 (W.heap.size + 1) (.cells #[.slice a l.length c] 25 (0, 0))) rfl (by omega) (gf := 69) (lb := #[.pointer (some ⟨W.heap.size + 1, 0, none⟩)]) rfl trivial (enters_of Tryz.func69 (by kernel_rfl) rfl)
    (lines_seq (n - 1) (by omega) (W.heap.size + 1) n0 l a c W0 (by omega) xs hc (by omega) (fun W' h => by
      have := HV.out W' ((bW.mono hnW).trans h)
      exact ⟨this.1, this.2.2.2.1, this.2.2.1⟩)) (Below.refl _ _) kpB_t (fun V r r' h => kpB_b (w := W0) (by omega) rfl V _ _ _ (by omega) h rfl rfl) (fun _ => rfl)
    (EaI l ly n0 W.heap.size (W.heap.size + 1) J W) (EaX l J Jx) (eaI_own HJ.out (by omega) hnW (by omega)) (eaX_own HJ.out HJx.out (by omega))
    ⟨[], rfl, J0, x2, by omega, bW.mono hnW⟩ ?round ?done ?stop
  case round =>
    rintro pre x V ⟨qs, P⟩ hR hsz hr hlt
    have hmem : x ∈ linesL l 0 := hR.subset (by simp)
    have hx := linesL_mem l l.length 0 (by omega) x hmem
    have hx1 : x.1 ≤ 67108864 := by omega
    have hx2 : x.2.length ≤ 16777216 := by omega
    gi_wp2
    refine ⟨⟨KeepsFrom.refl _ _, Below.refl _ _, fun h => h⟩, fun r' => ?_⟩
    obtain ⟨r, hr⟩ := hr
    obtain ⟨qs', P'⟩ := (eaI_own (b := W0.heap.size) HJ.out (by omega) hnW (by omega)).putObj (.loop r') (⟨qs, P⟩ : EaI l ly n0 W.heap.size (W.heap.size + 1) J W pre V) (Nat.le_succ _) hr rfl
    obtain ⟨y, hy⟩ : ∃ y, lineAt x.2 = y := ⟨_, rfl⟩
    rcases y with (_ | q) | ⟨p, e⟩
    · exact ea_none n (by omega) l a c ly n0 W.heap.size W0.heap.size gb _ _ J Jx W C (by omega) (by omega) _ pre x qs' _ P' hR hx1 hx2 hy
    · exact ea_some n (by omega) l a c ly n0 W.heap.size W0.heap.size gb _ _ J Jx W C (by omega) (by omega) _ pre x qs' _ P' hR hx1 hx2 q hy
    · exact ea_bad n (by omega) l a c ly n0 W.heap.size W0.heap.size gb _ _ J Jx W C (by omega) (by omega) _ pre x qs' _ P' hR hx1 hx2 p e hy
  case done =>
    rintro ys V rfl ⟨qs, P⟩ hK
    obtain ⟨h1, h2⟩ := each_all P.rd
    have HC : Hid (countE l = qs.length) := Lib.hid (by rw [countE_ok h2, h1])
    have HJ2 : Hid (J (qs.map (fun q => (q, Value.nilIface))) (V.putObj W0.heap.size (.deferred none))) := Lib.hid (HJ.out.putObj _ P.j (by omega) hK rfl)
    have HK := Lib.hid hK
    clear P h1 h2 hK
    gi_wp2_with fail
    refine ⟨by simp, .inl ⟨_, _, rfl, run_takeDeferred HK.out, ?_⟩⟩
    exact ⟨_, results_none rfl _ _ _, ⟨_, rfl⟩, .inl ⟨_, by rw [List.length_map]; exact HC.out.symm, HJ2.out⟩⟩
  case stop =>
    rintro d pre V hSp ⟨rfl, hE⟩ hK
    have HK := Lib.hid hK
    have HE : Hid (EaEnd l J Jx (V.putObj W0.heap.size (.deferred none))) := Lib.hid (by
      rcases hE with ⟨xs, h1, h2⟩ | ⟨xs, h1, h2⟩
      · exact .inl ⟨xs, h1, HJ.out.putObj _ h2 (by omega) hK rfl⟩
      · exact .inr ⟨xs, h1, HJx.out.putObj _ h2 (by omega) hK rfl⟩)
    clear hE hK
    gi_wp2_with fail
    refine ⟨by simp, .inl ⟨_, _, rfl, run_takeDeferred HK.out, ?_⟩⟩
    exact ⟨_, results_none rfl _ _ _, ⟨_, rfl⟩, HE.out⟩
end Go.Proofs.YtdegonmkikfghaaGreatDoor
