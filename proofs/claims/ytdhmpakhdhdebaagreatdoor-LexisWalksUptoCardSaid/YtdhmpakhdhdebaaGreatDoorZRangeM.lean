/-
  A range over a function whose round knows something (R) of what has been yielded, in the world that it is yielded in, and whose iterator may itself range over a function: such an iterator's contract, and the laws of a loop over it (outermost, and within a round). No program in sight. By an AI agent.
-/
import Derived.RangeFuncNested
import Derived.Test.YtdhmpakhdhdebaaGreatDoorZTerm1
namespace Go.Proofs.YtdhmpakhdhdebaaGreatDoor
open Go Go.RowKit
def postM {α : Type} (c : Nat) (Kp : World -> World -> Prop) (I : List α -> World -> Prop) (Ix : Code -> List α -> World -> Prop) (xs : List α) (W : World) : Exit -> Act -> World -> Prop
 | .normal, _, W' => KeepsFrom c W W' /\ Kp W W' /\ I xs W'
 | .ret, _, W' => KeepsFrom c W W' /\ Kp W W' /\ Ix .ret xs W'
 | .exit id, _, W' => KeepsFrom c W W' /\ Kp W W' /\ Ix (.exit id) xs W'
 | .goto t, _, W' => KeepsFrom c W W' /\ Kp W W' /\ Ix (.goto t) xs W'
 | .panic _, _, _ => False
 | .outgrown, _, _ => False
section
variable {α : Type} {F : Fence} {n : Nat} {P : Program} {encs : α -> Array Value} {Kp : Nat -> World -> World -> Prop} {R : List α -> World -> Prop} {S Sp : List α -> Prop} {N : Nat} {w0 : World}
theorem postM_mono {c : Nat} {K : World -> World -> Prop} {I I' : List α -> World -> Prop} {Ix Ix' : Code -> List α -> World -> Prop} {xs : List α} {W : World} (h1 : ∀ V, KeepsFrom c W V -> I xs V -> I' xs V) (h2 : ∀ d V, KeepsFrom c W V -> Ix d xs V -> Ix' d xs V) : ∀ (e : Exit) (a : Act) (V : World), postM c K I Ix xs W e a V -> postM c K I' Ix' xs W e a V
 | .normal, _, _, h => ⟨h.1, h.2.1, h1 _ h.1 h.2.2⟩
 | .ret, _, _, h => ⟨h.1, h.2.1, h2 _ _ h.1 h.2.2⟩
 | .exit _, _, _, h => ⟨h.1, h.2.1, h2 _ _ h.1 h.2.2⟩
 | .goto _, _, _, h => ⟨h.1, h.2.1, h2 _ _ h.1 h.2.2⟩
 | .panic _, _, _, h => h
 | .outgrown, _, _, h => h
theorem ownFrom_above {β : Type} {B B' : Nat} {I : β -> World -> Prop} (h : OwnFrom B I) (hb : B <= B') : OwnFrom B' I := fun s A C row h1 h2 h3 => h s A C row h1 h2 (fun r e => ⟨Nat.le_trans hb (h3 r e).1, (h3 r e).2⟩)
end
end Go.Proofs.YtdhmpakhdhdebaaGreatDoor
namespace Go.Proofs.YtdhmpakhdhdebaaGreatDoor
open Go Go.RowKit
def PrivFrom {β : Type} (B : Nat) (I : Nat -> β -> World -> Prop) : Prop :=
 ∀ c s A C row, I c s A -> A.grownBy C row -> (∀ r, row = some r -> B <= r /\ (r = c \/ ∃ o : Obj, A.heap[r]? = some o /\ o.isCells = false)) -> I c s C
theorem PrivFrom.putObj {β : Type} {B : Nat} {I : Nat -> β -> World -> Prop} (h : PrivFrom B I) {c : Nat} {s : β} {W : World} {l : Nat} {o : Obj} (o' : Obj) (hs : I c s W) (hB : B <= l) (hl : W.heap[l]? = some o) (ho : o.isCells = false) : I c s (W.putObj l o') :=
 h c s W _ (some l) hs (grownBy_putObj' W l o') (fun r e => by cases e; exact ⟨hB, .inr ⟨o, hl, ho⟩⟩)
theorem privFrom_above {β : Type} {B B' : Nat} {I : Nat -> β -> World -> Prop} (h : PrivFrom B I) (hb : B <= B') : PrivFrom B' I := fun c s A C row h1 h2 h3 => h c s A C row h1 h2 (fun r e => ⟨Nat.le_trans hb (h3 r e).1, (h3 r e).2⟩)
def SeqP {α : Type} (F : Fence) (n : Nat) (P : Program) (g : Nat) (lb : Array Value) (encs : α -> Array Value) (Kp : Nat -> World -> World -> Prop) (R : List α -> World -> Prop) (S Sp : List α -> Prop) (N : Nat) (w : World) : Prop :=
 ∀ (l : Nat) (J Jx : Nat -> List α -> World -> Prop) (W : World), Below w.heap.size w W -> PrivFrom W.heap.size J -> (∀ c, OwnFrom W.heap.size (Jx c)) ->
  (∀ c pre x V, W.heap.size <= c -> c < V.heap.size -> J c pre V -> R (pre ++ [x]) V -> W.heap.size <= V.heap.size -> pre.length < N -> YieldAt F (n - 1) P l (encs x) V fun e V' =>
   (e = .returned (.bool true) /\ J c (pre ++ [x]) V' /\ Kp c V V') \/ (e = .returned (.bool false) /\ Jx c (pre ++ [x]) V' /\ Kp c V V')) ->
  (∀ c V, Below W.heap.size W V -> W.heap.size <= c -> c < V.heap.size -> J c [] V) -> CallsIn F n P g (#[.func (.yield l) #[] #[]] ++ lb) W fun e V => (∃ v, e = .returned v) /\ ((∃ c xs, S xs /\ J c xs V) \/ (∃ c pre, Sp pre /\ Jx c pre V))
section
variable {α : Type} {F : Fence} {n : Nat} {P : Program} {encs : α -> Array Value} {Kp : Nat -> World -> World -> Prop} {R : List α -> World -> Prop} {S Sp : List α -> Prop} {N : Nat} {w0 : World}
theorem rangeP_core {gf : Nat} {lb : Array Value} (hseq : SeqP F n P gf lb encs Kp R S Sp N w0) {U : World} (hb : Below w0.heap.size w0 U) {l c : Nat} (hcl : c <= l) (hlU : l < U.heap.size)
  (hKt : ∀ {c : Nat} {A B C : World}, Kp c A B -> Kp c B C -> Kp c A C) (hKp : ∀ (c : Nat) (W : World) (r r' : Loop), U.heap.size <= c -> W.heap[l]? = some (.loop r) -> Kp c W (W.putObj l (.loop r')))
  {fn : FuncId} {tm : Array Value} {ps : Array Tmp} {assign body : Code} {D : Nat} (mk : LoopState -> Option Code -> Loop) (hmk : mk = fun s p => { state := s, pending := p, fn, tmps := tm, params := ps, assign, body, defers := D }) (hfn : F.fn fn) (hps : ∀ x, (encs x).size = ps.size)
  (I : Nat -> List α -> World -> Prop) (Ix : Code -> Nat -> List α -> World -> Prop) (hI : PrivFrom U.heap.size I) (hIx : ∀ d b, OwnFrom U.heap.size (Ix d b))
  (hIp : ∀ b xs W r r', I b xs W -> W.heap[l]? = some (.loop r) -> I b xs (W.putObj l (.loop r'))) (hIxp : ∀ d b xs W r r', Ix d b xs W -> W.heap[l]? = some (.loop r) -> Ix d b xs (W.putObj l (.loop r')))
  (h0 : ∀ b V, Below U.heap.size U V -> U.heap.size <= b -> b < V.heap.size -> I b [] V) (hU : U.heap[l]? = some (.loop (mk .ready none)))
  (hround : ∀ (b : Nat) (pre : List α) (x : α) (W : World), U.heap.size <= b -> b < W.heap.size -> I b pre W -> R (pre ++ [x]) W -> U.heap.size <= W.heap.size -> (∃ r, W.heap[l]? = some (.loop r)) -> pre.length < N ->
   assign.wpIn (F.inRound l) (n - 1) P (Exit.then (fun a1 V => (KeepsFrom c W V /\ Kp b W V) /\ ∀ r', body.wpIn (F.inRound l) (n - 1) P (postM c (Kp b) (I b) (fun d => Ix d b) (pre ++ [x]) (V.putObj l (.loop r'))) a1 (V.putObj l (.loop r'))) (fun _ _ _ => False))
    { tmps := (ps.zip (encs x)).foldl (fun t (p, v) => t.setIfInBounds p v) tm, defers := [] } W) :
  CallsIn F n P gf (#[.func (.yield l) #[] #[]] ++ lb) U fun e V => (∃ v, e = .returned v) /\
   ((∃ b xs, S xs /\ I b xs V /\ V.heap[l]? = some (.loop (mk .ready none))) \/ (∃ b pre, Sp pre /\ ∃ d, Ix d b pre V /\ V.heap[l]? = some (.loop (mk .done (some d))))) := by
 refine (hseq l (fun b pre W => I b pre W /\ W.heap[l]? = some (.loop (mk .ready none))) (fun b pre W => ∃ d, Ix d b pre W /\ W.heap[l]? = some (.loop (mk .done (some d)))) U hb ?_ ?_ ?_ (fun b V hbV h1 h2 => ⟨h0 b V hbV h1 h2, (hbV.block l hlU).trans hU⟩)).mono (fun e V h => ⟨h.1, h.2.imp (fun ⟨b, xs, h1, h2, h3⟩ => ⟨b, xs, h1, h2, h3⟩) (fun ⟨b, pre, h1, d, h2, h3⟩ => ⟨b, pre, h1, d, h2, h3⟩)⟩)
 ·rintro b s A C row ⟨h2, h3⟩ h4 h5
  exact ⟨hI b s A C row h2 h4 h5, (h4.block l (Array.getElem?_eq_some_iff.1 h3).1 (fun e => by have := (h5 l e.symm).1; omega)).trans h3⟩
 ·rintro b s A C row ⟨d, h2, h3⟩ h4 h5
  exact ⟨d, hIx d b s A C row h2 h4 h5, (h4.block l (Array.getElem?_eq_some_iff.1 h3).1 (fun e => by have := (h5 l e.symm).1; omega)).trans h3⟩
 ·rintro b pre x W hbU hbW ⟨hi, hl⟩ hx hsz hlen
  have hlt : l < W.heap.size := (Array.getElem?_eq_some_iff.1 hl).1
  have hy := run_yield (P := P) (args := encs x) hl (by rw [hmk]; exact hps x)
  rw [hmk] at hy
  refine ⟨fn, _, assign, body, hy, roundIn_of_wpIn hfn (wpIn_mono (hround b pre x W hbU hbW hi hx hsz ⟨_, hl⟩ hlen) ?_)⟩
  clear hy
  rintro e a1 V he
  cases e with
  | normal =>
   obtain ⟨k1, k3⟩ := he
   have hv : V.heap[l]? = some (.loop (mk .ready none)) := k1.1.same l _ hcl hl rfl
   have hlV : l < V.heap.size := (Array.getElem?_eq_some_iff.1 hv).1
   have hv2 : (V.putObj l (.loop { mk .ready none with state := .busy })).heap[l]? = some (.loop { mk .ready none with state := .busy }) := World.putObj_heap_same hlV
   have kb : Kp b V (V.putObj l (.loop { mk .ready none with state := .busy })) := hKp _ _ _ _ hbU hv
   refine ⟨_, run_beginRound hv (by rw [hmk]), wpIn_mono (k3 _) ?_⟩
   have fin : ∀ (j : Option Code) (V3 : World), KeepsFrom c (V.putObj l (.loop { mk .ready none with state := .busy })) V3 -> Kp b (V.putObj l (.loop { mk .ready none with state := .busy })) V3 ->
     (Instr.endRound l j).run P V3 = .ok (.bool j.isNone) (V3.putObj l (.loop (mk (if j.isNone then .ready else .done) j))) /\ V3.heap[l]? = some (.loop { mk .ready none with state := .busy }) /\
     (V3.putObj l (.loop (mk (if j.isNone then .ready else .done) j))).heap[l]? = some (.loop (mk (if j.isNone then .ready else .done) j)) /\ Kp b W (V3.putObj l (.loop (mk (if j.isNone then .ready else .done) j))) := fun j V3 h hk => by
    have h3 := h.same l _ hcl hv2 rfl
    have h4 := run_endRound (P := P) j h3
    rw [hmk] at h4 ⊢
    exact ⟨h4, by rw [hmk] at h3; exact h3, World.putObj_heap_same (Array.getElem?_eq_some_iff.1 h3).1, hKt k1.2 (hKt kb (hKt hk (hKp _ _ _ _ hbU h3)))⟩
   have out : ∀ (d : Code) (V3 : World), KeepsFrom c (V.putObj l (.loop { mk .ready none with state := .busy })) V3 -> Kp b (V.putObj l (.loop { mk .ready none with state := .busy })) V3 -> Ix d b (pre ++ [x]) V3 -> _ := fun d V3 h hk hx => by
    obtain ⟨e1, e2, e3, e4⟩ := fin (some d) V3 h hk
    exact (⟨_, _, e1, .inr ⟨rfl, ⟨d, hIxp _ _ _ _ _ _ hx e2, e3⟩, e4⟩⟩ : ∃ v W', (Instr.endRound l (some d)).run P V3 = .ok v W' /\ ((Ending.returned v = .returned (.bool true) /\ (I b (pre ++ [x]) W' /\ W'.heap[l]? = some (.loop (mk .ready none))) /\ Kp b W W') \/ (Ending.returned v = .returned (.bool false) /\ (∃ d, Ix d b (pre ++ [x]) W' /\ W'.heap[l]? = some (.loop (mk .done (some d)))) /\ Kp b W W')))
   rintro e2 a3 V3 hp
   cases e2 with
   | normal =>
    obtain ⟨p1, p2, p3⟩ := hp
    obtain ⟨e1, e2, e3, e4⟩ := fin none V3 p1 p2
    exact ⟨_, _, e1, .inl ⟨rfl, ⟨hIp _ _ _ _ _ p3 e2, e3⟩, e4⟩⟩
   | ret => exact out .ret V3 hp.1 hp.2.1 hp.2.2
   | exit id => exact out (.exit id) V3 hp.1 hp.2.1 hp.2.2
   | goto t => exact out (.goto t) V3 hp.1 hp.2.1 hp.2.2
   | panic => exact hp.elim
   | outgrown => exact hp.elim
  | ret => exact he.elim
  | exit id => exact he.elim
  | goto t => exact he.elim
  | panic => exact he.elim
  | outgrown => exact he.elim
theorem wpIn_rangeP {g : Operand} {ps : Array Tmp} {assign body : Code} {Q : Exit -> Act -> World -> Prop} {a : Act} {w : World}
  (hro : F.round = none) (h1 : 1 <= n) {gf : Nat} {lb : Array Value} (hg : a.eval g = .func (.func gf) #[] lb) (hFg : F.fn gf) (eg : ∀ args w, (callFunc gf args).run P w = .ok (.enter gf args) w)
  (hseq : SeqP F (n - 1) P gf lb encs Kp R S Sp N w0) (hb0 : Below w0.heap.size w0 w)
  (hKt : ∀ {c : Nat} {A B C : World}, Kp c A B -> Kp c B C -> Kp c A C) (hKp : ∀ (c : Nat) (W : World) (r r' : Loop), w.heap.size + 2 <= c -> W.heap[w.heap.size + 1]? = some (.loop r) -> Kp c W (W.putObj (w.heap.size + 1) (.loop r')))
  (hps : ∀ x, (encs x).size = ps.size)
  (I : Nat -> List α -> World -> Prop) (Ix : Code -> Nat -> List α -> World -> Prop) (hI : PrivFrom w.heap.size I) (hIx : ∀ d b, OwnFrom w.heap.size (Ix d b)) (h0 : ∀ b V, Below w.heap.size w V -> w.heap.size + 2 <= b -> b < V.heap.size -> I b [] V)
  (hround : ∀ (b : Nat) (pre : List α) (x : α) (W : World), w.heap.size + 2 <= b -> b < W.heap.size -> I b pre W -> R (pre ++ [x]) W -> w.heap.size + 2 <= W.heap.size -> (∃ r, W.heap[w.heap.size + 1]? = some (.loop r)) -> pre.length < N ->
   assign.wpIn (F.inRound (w.heap.size + 1)) (n - 1 - 1) P (Exit.then (fun a1 V => (KeepsFrom w.heap.size W V /\ Kp b W V) /\ ∀ r', body.wpIn (F.inRound (w.heap.size + 1)) (n - 1 - 1) P (postM w.heap.size (Kp b) (I b) (fun d => Ix d b) (pre ++ [x]) (V.putObj (w.heap.size + 1) (.loop r'))) a1 (V.putObj (w.heap.size + 1) (.loop r'))) (fun _ _ _ => False))
    { tmps := (ps.zip (encs x)).foldl (fun t (p, v) => t.setIfInBounds p v) a.tmps, defers := [] } W)
  (hdone : ∀ (b : Nat) (xs : List α) (W : World), S xs -> I b xs W -> W.heap[w.heap.size]? = some (.deferred (some [])) -> Q .normal { a with defers := { target := .collected w.heap.size, args := #[] } :: a.defers } W)
  (hstop : ∀ (c : Code) (b : Nat) (pre : List α) (W : World), Sp pre -> Ix c b pre W -> W.heap[w.heap.size]? = some (.deferred (some [])) -> c.wpIn F n P Q { a with defers := { target := .collected w.heap.size, args := #[] } :: a.defers } W) :
  (Code.rangeFunc g ps assign body).wpIn F n P Q a w := by
 refine wpIn_rangeFunc fun fn hfn => ?_
 rw [hro]
 obtain ⟨mk, hmk⟩ : ∃ mk : LoopState -> Option Code -> Loop, mk = fun s p => { state := s, pending := p, fn, tmps := a.tmps, params := ps, assign, body, defers := w.heap.size } := ⟨_, rfl⟩
 obtain ⟨U, hU⟩ : ∃ U, (w.alloc (.deferred (some []))).alloc (.loop (mk .ready none)) = U := ⟨_, rfl⟩
 have hD : U.heap[w.heap.size]? = some (.deferred (some [])) := by subst hU; exact (Below.heap_alloc _ _ _ (by simp)).trans (World.alloc_heap_new w _)
 have hL : U.heap[w.heap.size + 1]? = some (.loop (mk .ready none)) := by
  subst hU
  have h := World.alloc_heap_new (w.alloc (.deferred (some []))) (.loop (mk .ready none))
  rwa [World.size_alloc] at h
 have hbU : Below w0.heap.size w0 U := by subst hU; exact (hb0.alloc hb0.size _).alloc (Nat.le_trans hb0.size (by simp)) _
 have hbw : Below w.heap.size w U := by subst hU; exact ((Below.refl _ w).alloc (Nat.le_refl _) _).alloc (by simp) _
 have hsU : U.heap.size = w.heap.size + 2 := by subst hU; simp
 refine ⟨w.heap.size + 1, [{ target := .collected w.heap.size, args := #[] }], U, { target := .fn (.func gf) lb, args := #[.func (.yield (w.heap.size + 1)) #[] #[]] }, U, gf, #[.func (.yield (w.heap.size + 1)) #[] #[]] ++ lb, U, ?_, ?_, ?_, ?_, fun _ => h1, ?_⟩
 ·rw [<- hU, hmk]; exact run_enterLoop_outer _ _ _ _ _
 ·simp only [resolve, hg]; simp [go_sem]
 ·intro f hf; simp [Target.leads] at hf; subst hf; exact hFg
 ·simp [invoke, go_sem, eg]
 have kept : ∀ {A C : World} {row : Option Nat}, A.heap[w.heap.size]? = some (.deferred (some [])) -> A.grownBy C row -> (∀ r, row = some r -> U.heap.size <= r) -> C.heap[w.heap.size]? = some (.deferred (some [])) := fun h2 h3 h4 =>
  (h3.block _ (Array.getElem?_eq_some_iff.1 h2).1 (fun e => by have := h4 _ e.symm; omega)).trans h2
 refine (rangeP_core hseq hbU (l := w.heap.size + 1) (c := w.heap.size) (Nat.le_succ _) (by omega) hKt (by rw [hsU]; exact hKp) mk hmk hfn hps (fun b xs W => I b xs W /\ W.heap[w.heap.size]? = some (.deferred (some []))) (fun d b xs W => Ix d b xs W /\ W.heap[w.heap.size]? = some (.deferred (some [])))
  (fun b s A C row h2 h3 h4 => ⟨(privFrom_above hI (B' := U.heap.size) (by omega)) b s A C row h2.1 h3 h4, kept h2.2 h3 (fun r e => (h4 r e).1)⟩) (fun d b s A C row h2 h3 h4 => ⟨(ownFrom_above (hIx d b) (B' := U.heap.size) (by omega)) s A C row h2.1 h3 h4, kept h2.2 h3 (fun r e => (h4 r e).1)⟩)
  (fun b xs W r r' h2 h3 => ⟨hI.putObj _ h2.1 (Nat.le_succ _) h3 rfl, (World.putObj_heap_other (by omega)).trans h2.2⟩) (fun d b xs W r r' h2 h3 => ⟨(hIx d b).putObj _ h2.1 (Nat.le_succ _) h3 rfl, (World.putObj_heap_other (by omega)).trans h2.2⟩)
  (fun b V hbV h1 h2 => ⟨h0 b V (hbw.trans (hbV.mono (by omega))) (by omega) h2, (hbV.block _ (by omega)).trans hD⟩) hL ?_).mono ?_
 ·rintro b pre x W hbU2 hbW ⟨hi, hd⟩ hx hsz hr hlen
  refine wpIn_mono (hround b pre x W (by omega) hbW hi hx (by omega) hr hlen) ?_
  rintro e a1 V he
  cases e with
  | normal =>
   obtain ⟨k1, k2⟩ := he
   refine ⟨k1, fun r' => wpIn_mono (k2 r') ?_⟩
   have hdV : (V.putObj (w.heap.size + 1) (.loop r')).heap[w.heap.size]? = some (.deferred (some [])) := (World.putObj_heap_other (by omega)).trans (k1.1.same _ _ (Nat.le_refl _) hd rfl)
   exact postM_mono (fun V3 h2 h3 => ⟨h3, h2.same _ _ (Nat.le_refl _) hdV rfl⟩) (fun d V3 h2 h3 => ⟨h3, h2.same _ _ (Nat.le_refl _) hdV rfl⟩)
  | ret => exact he.elim
  | exit id => exact he.elim
  | goto t => exact he.elim
  | panic => exact he.elim
  | outgrown => exact he.elim
 ·rintro e V ⟨⟨v, rfl⟩, h⟩
  rcases h with ⟨b, xs, hS, ⟨hi, hd⟩, hl⟩ | ⟨b, pre, hS, d, ⟨hi, hd⟩, hl⟩
  ·have h := run_endLoop (P := P) hl (by rw [hmk]; simp)
   rw [hmk] at h
   exact ⟨none, _, h, hdone b xs _ hS (hI.putObj _ hi (Nat.le_succ _) hl rfl) ((World.putObj_heap_other (by omega)).trans hd)⟩
  ·have h := run_endLoop (P := P) hl (by rw [hmk]; simp)
   rw [hmk] at h
   exact ⟨some d, _, h, hstop d b pre _ hS ((hIx d b).putObj _ hi (Nat.le_succ _) hl rfl) ((World.putObj_heap_other (by omega)).trans hd)⟩
end
end Go.Proofs.YtdhmpakhdhdebaaGreatDoor
namespace Go.Proofs.YtdhmpakhdhdebaaGreatDoor
open Go.RowKit
set_option maxRecDepth 100000
theorem getD_drop (l : List UInt8) (i k : Nat) : (l.drop i).getD k 0 = l.getD (i + k) 0 := by
 simp [List.getD, List.getElem?_drop]
end Go.Proofs.YtdhmpakhdhdebaaGreatDoor
