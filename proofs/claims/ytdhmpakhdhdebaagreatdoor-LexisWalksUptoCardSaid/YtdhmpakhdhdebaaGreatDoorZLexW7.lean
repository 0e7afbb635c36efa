/-
  lexis.Lexer: how it lies in memory; blanks: contracts. By an AI agent.
-/
import Derived.Test.YtdhmpakhdhdebaaGreatDoorZLexW4
namespace Go.Proofs.YtdhmpakhdhdebaaGreatDoor
open Go.Lib (hid)
open Go.RowKit
set_option maxRecDepth 100000
def LexAt (w : World) (b : Nat) (l : List UInt8) (bad : Int) (i : Nat) (ev : Value) : Prop := RowAt w b [.string (B l), .int .i64 bad, .int .i64 (i : Int), ev]
theorem grownL_below {a w w' : World} {r : Option Nat} (h : a.grownBy w r) (hb : Below w.heap.size w w') : a.grownBy w' r :=
 ⟨hb.os.trans h.os, hb.tape.trans h.tape, hb.output.trans h.output, Nat.le_trans h.size hb.size, fun k hk hr => (hb.block k (Nat.lt_of_lt_of_le hk h.size)).trans (h.block k hk hr)⟩
theorem LexAt.lt {w : World} {b : Nat} {l : List UInt8} {bad : Int} {i : Nat} {ev : Value} (h : LexAt w b l bad i ev) : b < w.heap.size := World.block_lt_of_cell? _ _ (h.cell (j := 0) (by simp))
theorem LexAt.below {w w' : World} {b : Nat} {l : List UInt8} {bad : Int} {i : Nat} {ev : Value} (h : LexAt w b l bad i ev) (hb : Below w.heap.size w w') : LexAt w' b l bad i ev := RowAt.below h hb h.lt
theorem LexAt.to {w : World} {b : Nat} {l : List UInt8} {bad : Int} {i : Nat} {ev : Value} (h : LexAt w b l bad i ev) (k : Nat) : LexAt (w.setCell ⟨b, 2, none⟩ (.int .i64 (k : Int))) b l bad k ev := by
 have := RowAt.set h (j := 2) (by simp) (.int .i64 (k : Int))
 exact this
theorem LexAt.err {w : World} {b : Nat} {l : List UInt8} {bad : Int} {i : Nat} {ev : Value} (h : LexAt w b l bad i ev) (v : Value) : LexAt (w.setCell ⟨b, 3, none⟩ v) b l bad i v := by
 have := RowAt.set h (j := 3) (by simp) v
 exact this
theorem LexAt.drewN {w : World} {b : Nat} {l : List UInt8} {bad : Int} {i : Nat} {ev : Value} (h : LexAt w b l bad i ev) (n : Nat) : LexAt (w.drewN n) b l bad i ev := h
theorem endF_drop (l : List UInt8) (k : Nat) (hk : k <= l.length) : endF (l.drop k) = if eolF l k < l.length then ((eolF l k - k : Nat) : Int) else -1 := by
 rw [<- endF_any, idx_ends l l.length k (by omega) hk]
set_option maxHeartbeats 3200000 in
theorem lexBlanks_l (l : List UInt8) (bad : Int) (i : Nat) (ev : Value) (b : Nat) (w : World) (h : LexAt w b l bad i ev) (hi : i <= l.length) (hl : l.length <= 16777216) :
  Calls Tryz.prog 43 #[.pointer (some ⟨b, 0, none⟩)] w fun e w' => e = .returned (.tuple #[]) /\ LexAt w' b l bad (gapF l i) ev /\ w.grownBy w' (some b) := by
 have H0 := hid h
 have HG0 : Hid (w.grownBy w (some b)) := hid (World.grownBy.refl _ _)
 clear h
 go_enter Tryz.func43, Tryz.ntmps43
 go_wp2_with fail
 go_loopw [2] (fun _ wr => ∃ k : Nat, i <= k /\ k <= l.length /\ Hid (gapF l k = gapF l i) /\ Hid (LexAt wr b l bad k ev) /\ Hid (w.grownBy wr (some b))) (fun _ wr => l.length - (intOf ((wr.cell? ⟨b, 2, none⟩).getD undef)).toNat)
 case atStart => exact ⟨i, Nat.le_refl _, hi, hid rfl, H0, HG0⟩
 case round =>
  obtain ⟨k, hik, hk, HE, HX, HG⟩ := hrel
  obtain ⟨W0, hW0⟩ : ∃ W0 : World, W0 = wr := ⟨_, rfl⟩
  subst hW0
  clear H0 HG0
  obtain ⟨x0, x1, x2, x3, f0, f1, f2, f3⟩ := RowAt.four HX.out
  have hbl := HX.out.lt
  have hms : (intOf ((W0.cell? ⟨b, 2, none⟩).getD undef)).toNat = k := by rw [x2]; simp [intOf]
  have HM := hid hms
  clear hms
  have k0 : (0 : Int) <= (k : Int) := by omega
  by_cases hlt : k < l.length
  ·have c1 : decide ((k : Int) < (l.length : Int)) = true := decide_eq_true (by omega)
   have c2 : decide (k < l.length) = true := decide_eq_true hlt
   have c3 : (k : Int) < (l.length : Int) := by omega
   have hg : l.getD k 0 = l[k] := by simp [List.getD, hlt]
   have WA : IntKind.i64.wrap ((k : Int) + 1) = (k : Int) + 1 := IntWalk.i64_in _ (by omega)
   by_cases h32 : l[k] = 32
   ·have y32 : ((l[k].toNat : Int) == 32) = true := by rw [h32]; rfl
    have HN : Hid (gapF l (k + 1) = gapF l i) := hid (by rw [<- HE.out, gapF_blank hlt (by rw [hg, h32]; rfl)])
    clear HE hg h32
    go_wp2_with fail
    go_quiet (fail)
    go_wp2_with fail
    go_quiet (fail)
    go_wp2_with fail
    go_roundw
    case rel => exact ⟨k + 1, by omega, by omega, HN, hid ((HX.out.drewN _).to (k + 1)), hid (grownR_trans (grown_drewN HG.out _) (grownBy_setCell1 _ _ _ _))⟩
    case measure => rw [HM.out, World.cell?_setCell_same _ _ _ (show (W0.drewN _).cell? ⟨b, 2, none⟩ = some (.int .i64 (k : Int)) from x2)]; simp [intOf]; omega
   have n32 : ((l[k].toNat : Int) == 32) = false := byte_ne (d := 32) h32
   by_cases h9 : l[k] = 9
   ·have y9 : ((l[k].toNat : Int) == 9) = true := by rw [h9]; rfl
    have HN : Hid (gapF l (k + 1) = gapF l i) := hid (by rw [<- HE.out, gapF_blank hlt (by rw [hg, h9]; rfl)])
    clear HE hg h9
    go_wp2_with fail
    go_quiet (fail)
    go_wp2_with fail
    go_quiet (fail)
    go_wp2_with fail
    go_roundw
    case rel => exact ⟨k + 1, by omega, by omega, HN, hid ((HX.out.drewN _).to (k + 1)), hid (grownR_trans (grown_drewN HG.out _) (grownBy_setCell1 _ _ _ _))⟩
    case measure => rw [HM.out, World.cell?_setCell_same _ _ _ (show (W0.drewN _).cell? ⟨b, 2, none⟩ = some (.int .i64 (k : Int)) from x2)]; simp [intOf]; omega
   have n9 : ((l[k].toNat : Int) == 9) = false := byte_ne (d := 9) h9
   by_cases h13 : l[k] = 13
   ·have y13 : ((l[k].toNat : Int) == 13) = true := by rw [h13]; rfl
    have HN : Hid (gapF l (k + 1) = gapF l i) := hid (by rw [<- HE.out, gapF_blank hlt (by rw [hg, h13]; rfl)])
    clear HE hg h13
    go_wp2_with fail
    go_quiet (fail)
    go_wp2_with fail
    go_quiet (fail)
    go_wp2_with fail
    go_roundw
    case rel => exact ⟨k + 1, by omega, by omega, HN, hid ((HX.out.drewN _).to (k + 1)), hid (grownR_trans (grown_drewN HG.out _) (grownBy_setCell1 _ _ _ _))⟩
    case measure => rw [HM.out, World.cell?_setCell_same _ _ _ (show (W0.drewN _).cell? ⟨b, 2, none⟩ = some (.int .i64 (k : Int)) from x2)]; simp [intOf]; omega
   have n13 : ((l[k].toNat : Int) == 13) = false := byte_ne (d := 13) h13
   by_cases h10 : l[k] = 10
   ·have y10 : ((l[k].toNat : Int) == 10) = true := by rw [h10]; rfl
    have HN : Hid (gapF l (k + 1) = gapF l i) := hid (by rw [<- HE.out, gapF_blank hlt (by rw [hg, h10]; rfl)])
    clear HE hg h10
    go_wp2_with fail
    go_quiet (fail)
    go_wp2_with fail
    go_quiet (fail)
    go_wp2_with fail
    go_roundw
    case rel => exact ⟨k + 1, by omega, by omega, HN, hid ((HX.out.drewN _).to (k + 1)), hid (grownR_trans (grown_drewN HG.out _) (grownBy_setCell1 _ _ _ _))⟩
    case measure => rw [HM.out, World.cell?_setCell_same _ _ _ (show (W0.drewN _).cell? ⟨b, 2, none⟩ = some (.int .i64 (k : Int)) from x2)]; simp [intOf]; omega
   have n10 : ((l[k].toNat : Int) == 10) = false := byte_ne (d := 10) h10
   have nb : blankC l[k] = false := by unfold blankC; simp [h32, h9, h13, h10]
   by_cases h35 : l[k] = 35
   ·have y35 : ((l[k].toNat : Int) == 35) = true := by rw [h35]; rfl
    have ne : eolC (l.getD k 0) = false := by rw [hg, h35]; rfl
    have e1 := eolF_go hlt ne
    have hb := eolF_bound l l.length (k + 1) (by omega) (by omega)
    have HN : Hid (gapF l (eolF l k) = gapF l i) := hid (by rw [<- HE.out, gapF_hash hlt (by rw [hg]; exact h35), e1])
    have EN := hid (fun (u : World) => endAny_l (l.drop k) u (by simp; omega))
    rw [endF_drop l k (by omega)] at EN
    rw [<- e1] at hb
    obtain ⟨m, hm⟩ : ∃ m, eolF l k = m := ⟨_, rfl⟩
    rw [hm] at EN hb HN
    have tk : List.take (l.length - k) (List.drop k l) = List.drop k l := List.take_of_length_le (by simp)
    clear HE hg h35 e1 ne hm nb h32 h9 h13 h10
    have WM : IntKind.i64.wrap ((k : Int) + ((m - k : Nat) : Int)) = (m : Int) := by rw [IntWalk.i64_in _ (by omega)]; omega
    by_cases hm : m < l.length
    ·rw [if_pos hm] at EN
     have d1 : decide (((m - k : Nat) : Int) < 0) = false := decide_eq_false (by omega)
     go_wp2_with fail
     go_quiet (fail)
     go_wp2_with fail
     go_quiet (fail)
     go_wp2_with fail
     go_region_with (go_at_call 65; (with_reducible refine (EN.out _).mono ?_); rintro e w2 ⟨rfl, hb2⟩; have HX2 := hid (@LexAt.below _ _ b l bad k ev (by exact HX.out) hb2); have HG2 := hid (@grownL_below w _ _ (some b) (by exact ⟨HG.out.os, HG.out.tape, HG.out.output, HG.out.size, HG.out.block⟩) hb2); obtain ⟨y0, y1, y2, y3, g0, g1, g2, g3⟩ := RowAt.four HX2.out; have hb3 := HX2.out.lt; clear hb2)
     all_goals (go_wp2_with fail)
     all_goals go_roundw
     all_goals first
      | (case rel => exact ⟨m, by omega, by omega, HN, hid ((HX2.out.drewN _).to m), hid (grownR_trans (grown_drewN HG2.out _) (grownBy_setCell1 _ _ _ _))⟩)
      | (case rel => exact ⟨m, by omega, by omega, HN, hid (HX2.out.to m), hid (grownR_trans HG2.out (grownBy_setCell1 _ _ _ _))⟩)
      | (case measure => rw [HM.out, World.cell?_setCell_same _ _ _ y2]; simp [intOf]; omega)
    ·obtain rfl : m = l.length := by omega
     rw [if_neg hm] at EN
     have d1 : decide ((-1 : Int) < 0) = true := rfl
     have WN : IntKind.i64.wrap ((l.length : Int) - (k : Int)) = ((l.length - k : Nat) : Int) := by rw [IntWalk.i64_in _ (by omega)]; omega
     go_wp2_with fail
     go_quiet (fail)
     go_wp2_with fail
     go_quiet (fail)
     go_wp2_with fail
     go_region_with (go_at_call 65; (with_reducible refine (EN.out _).mono ?_); rintro e w2 ⟨rfl, hb2⟩; have HX2 := hid (@LexAt.below _ _ b l bad k ev (by exact HX.out) hb2); have HG2 := hid (@grownL_below w _ _ (some b) (by exact ⟨HG.out.os, HG.out.tape, HG.out.output, HG.out.size, HG.out.block⟩) hb2); obtain ⟨y0, y1, y2, y3, g0, g1, g2, g3⟩ := RowAt.four HX2.out; have hb3 := HX2.out.lt; clear hb2)
     all_goals (go_wp2_with fail)
     all_goals (go_quiet (fail))
     all_goals (go_wp2_with fail)
     all_goals go_roundw
     all_goals first
      | (case rel => exact ⟨l.length, by omega, by omega, HN, hid ((HX2.out.drewN _).to l.length), hid (grownR_trans (grown_drewN HG2.out _) (grownBy_setCell1 _ _ _ _))⟩)
      | (case measure => rw [HM.out, World.cell?_setCell_same _ _ _ (show (w2.drewN _).cell? ⟨b, 2, none⟩ = some (.int .i64 (k : Int)) from y2)]; simp [intOf]; omega)
   ·have n35 : ((l[k].toNat : Int) == 35) = false := byte_ne (d := 35) h35
    have HR : Hid (gapF l i = k) := hid (by rw [<- HE.out, gapF_stop hlt (by rw [hg]; exact nb) (by rw [hg]; exact h35)])
    clear HE hg h35 nb h32 h9 h13 h10
    go_wp2_with fail
    go_quiet (fail)
    go_wp2_with fail
    go_quiet (fail)
    go_wp2_with fail
    refine bodyPost_ret (v := .tuple #[]) (by simp [results, Tryz.results43, go_sem]) rfl ?_
    exact ⟨rfl, by rw [HR.out]; exact HX.out.drewN _, grown_drewN HG.out _⟩
  ·have c1 : decide ((k : Int) < (l.length : Int)) = false := decide_eq_false (by omega)
   have c2 : decide (k < l.length) = false := decide_eq_false hlt
   have HR : Hid (gapF l i = k) := hid (by rw [<- HE.out, gapF_end (by omega)])
   clear HE
   go_wp2_with fail
   go_quiet (fail)
   go_wp2_with fail
   go_end0
   exact ⟨rfl, by rw [HR.out]; exact HX.out.drewN _, grown_drewN HG.out _⟩
end Go.Proofs.YtdhmpakhdhdebaaGreatDoor
namespace Go.Proofs.YtdhmpakhdhdebaaGreatDoor
open Go.Lib (hid)
open Go.RowKit
set_option maxRecDepth 100000
def tokV (k : Int) (x y z : ByteArray) (a e : Int) : Value := .agg #[.int .i64 k, .string x, .string y, .string z, .int .i64 a, .int .i64 e]
def TokRet (e : Ending) (i : Nat) : TokR -> Prop
 | .inl t => e = .returned (.tuple #[tokV t.kind (B t.text) (B t.loc) (B t.typ) 0 (t.fin - (i : Int)), .agg #[.int .i64 0, .int .i64 0]])
 | .inr (p, n) => ∃ k x y z a f, e = .returned (.tuple #[tokV k x y z a f, .agg #[.int .i64 (p : Int), .int .i64 n]])
theorem tokRet_of {i : Nat} {t : TokL} {x y z : ByteArray} {e : Int} (h1 : x = B t.text) (h2 : y = B t.loc) (h3 : z = B t.typ) (h4 : e = t.fin - (i : Int)) : TokRet (.returned (.tuple #[tokV t.kind x y z 0 e, .agg #[.int .i64 0, .int .i64 0]])) i (.inl t) := by
 subst h1 h2 h3 h4
 rfl
theorem results_tk (fn : Func) (hr : fn.results = #[.cell 2 50, .cell 3 111]) (tm : Array Value) (u : World) (g f : Nat) (k : Int) (x y z : ByteArray) (a e p n : Int) (h2 : tm.getD 2 undef = .pointer (some ⟨g, 0, none⟩)) (h3 : tm.getD 3 undef = .pointer (some ⟨f, 0, none⟩))
  (c0 : u.cell? ⟨g, 0, none⟩ = some (.int .i64 k)) (c1 : u.cell? ⟨g, 1, none⟩ = some (.string x)) (c2 : u.cell? ⟨g, 2, none⟩ = some (.string y)) (c3 : u.cell? ⟨g, 3, none⟩ = some (.string z)) (c4 : u.cell? ⟨g, 4, none⟩ = some (.int .i64 a)) (c5 : u.cell? ⟨g, 5, none⟩ = some (.int .i64 e))
  (d0 : u.cell? ⟨f, 0, none⟩ = some (.int .i64 p)) (d1 : u.cell? ⟨f, 1, none⟩ = some (.int .i64 n)) :
  (results fn tm).run Tryz.prog u = .ok (.tuple #[tokV k x y z a e, .agg #[.int .i64 p, .int .i64 n]]) u := by
 rw [Array.getD_eq_getD_getElem?] at h2 h3
 simp [results, hr, h2, h3, go_sem, c0, c1, c2, c3, c4, c5, d0, d1, tokV]
theorem boxP_at {w : World} {x y : Value} {T : TypeId} : (w.alloc (.cells #[x, y] T)).cell? ⟨w.heap.size, 0, none⟩ = some x /\ (w.alloc (.cells #[x, y] T)).cell? ⟨w.heap.size, 1, none⟩ = some y := ⟨by rw [World.cell?_alloc_new]; rfl, by rw [World.cell?_alloc_new]; rfl⟩
set_option maxHeartbeats 800000 in
theorem lexFresh_l (l : List UInt8) (bad : Int) (i : Nat) (ev : Value) (b : Nat) (p : Nat) (n : Int) (w : World) (h : LexAt w b l bad i ev) (he : ErrIs w ev (.inr (p, n))) :
  Calls Tryz.prog 42 #[.pointer (some ⟨b, 0, none⟩)] w fun e w' => (∃ v, e = .returned v /\ ErrIs w' v (.inr (p, n))) /\ Below w.heap.size w w' := by
 obtain ⟨g, rfl, h1, h2⟩ := he
 obtain ⟨x0, x1, x2, x3, f0, f1, f2, f3⟩ := RowAt.four h
 have hbl := h.lt
 have hg : g < w.heap.size := World.block_lt_of_cell? _ _ h1
 have T2 := fun u => assertBB (some ⟨g, 0, none⟩) u
 clear h x0 x1 x2
 go_enter Tryz.func42, Tryz.ntmps42
 go_wp2_with fail
 go_region
 all_goals (go_wp2_with fail)
 all_goals go_ret
 all_goals
  refine ⟨⟨_, rfl, _, rfl, (boxP_at (w := w) (x := .int .i64 (p : Int)) (y := .iface 74 (.int .i64 n)) (T := 95)).1, (boxP_at (w := w) (x := .int .i64 (p : Int)) (y := .iface 74 (.int .i64 n)) (T := 95)).2⟩, ?_⟩
  first | exact (Below.refl _ _).alloc (Nat.le_refl _) _ | exact ((Below.refl _ _).alloc (Nat.le_refl _) _).drew
structure TkAt (W : World) (g : Nat) : Prop where
 a0 : W.cell? ⟨g, 0, none⟩ = some (.int .i64 0)
 a1 : W.cell? ⟨g, 1, none⟩ = some (.string ⟨#[]⟩)
 a2 : W.cell? ⟨g, 2, none⟩ = some (.string ⟨#[]⟩)
 a3 : W.cell? ⟨g, 3, none⟩ = some (.string ⟨#[]⟩)
 a4 : W.cell? ⟨g, 4, none⟩ = some (.int .i64 0)
 a5 : W.cell? ⟨g, 5, none⟩ = some (.int .i64 0)
 f0 : W.frozen? ⟨g, 0, none⟩ = false
 f1 : W.frozen? ⟨g, 1, none⟩ = false
 f2 : W.frozen? ⟨g, 2, none⟩ = false
 f3 : W.frozen? ⟨g, 3, none⟩ = false
 f4 : W.frozen? ⟨g, 4, none⟩ = false
 f5 : W.frozen? ⟨g, 5, none⟩ = false
 d0 : W.cell? ⟨g + 1, 0, none⟩ = some (.int .i64 0)
 d1 : W.cell? ⟨g + 1, 1, none⟩ = some (.int .i64 0)
 e0 : W.frozen? ⟨g + 1, 0, none⟩ = false
 e1 : W.frozen? ⟨g + 1, 1, none⟩ = false
 lt : g + 1 < W.heap.size
theorem tkAt_of {W : World} {g : Nat} (h : RowAt W g [.int .i64 0, .string ⟨#[]⟩, .string ⟨#[]⟩, .string ⟨#[]⟩, .int .i64 0, .int .i64 0]) (h2 : RowAt W (g + 1) [.int .i64 0, .int .i64 0]) : TkAt W g :=
 ⟨h.cell (j := 0) (by simp), h.cell (j := 1) (by simp), h.cell (j := 2) (by simp), h.cell (j := 3) (by simp), h.cell (j := 4) (by simp), h.cell (j := 5) (by simp), h.free (j := 0) (by simp), h.free (j := 1) (by simp), h.free (j := 2) (by simp), h.free (j := 3) (by simp), h.free (j := 4) (by simp), h.free (j := 5) (by simp),
  h2.cell (j := 0) (by simp), h2.cell (j := 1) (by simp), h2.free (j := 0) (by simp), h2.free (j := 1) (by simp), World.block_lt_of_cell? _ _ (h2.cell (j := 0) (by simp))⟩
theorem TkAt.below {W u : World} {g : Nat} (h : TkAt W g) (hb : Below W.heap.size W u) : TkAt u g := by
 have s := h.lt
 have c : ∀ k v, W.cell? ⟨g, k, none⟩ = some v -> u.cell? ⟨g, k, none⟩ = some v := fun k v e => (hb.cell (p := ⟨g, k, none⟩) (by simp only; omega)).trans e
 have d : ∀ k v, W.cell? ⟨g + 1, k, none⟩ = some v -> u.cell? ⟨g + 1, k, none⟩ = some v := fun k v e => (hb.cell (p := ⟨g + 1, k, none⟩) s).trans e
 have f : ∀ k, W.frozen? ⟨g, k, none⟩ = false -> u.frozen? ⟨g, k, none⟩ = false := fun k e => (hb.frozen (p := ⟨g, k, none⟩) (by simp only; omega)).trans e
 have j : ∀ k, W.frozen? ⟨g + 1, k, none⟩ = false -> u.frozen? ⟨g + 1, k, none⟩ = false := fun k e => (hb.frozen (p := ⟨g + 1, k, none⟩) s).trans e
 exact ⟨c _ _ h.a0, c _ _ h.a1, c _ _ h.a2, c _ _ h.a3, c _ _ h.a4, c _ _ h.a5, f _ h.f0, f _ h.f1, f _ h.f2, f _ h.f3, f _ h.f4, f _ h.f5, d _ _ h.d0, d _ _ h.d1, j _ h.e0, j _ h.e1, Nat.lt_of_lt_of_le s hb.size⟩
theorem TkAt.drewN {W : World} {g : Nat} (h : TkAt W g) (n : Nat) : TkAt (W.drewN n) g := ⟨h.a0, h.a1, h.a2, h.a3, h.a4, h.a5, h.f0, h.f1, h.f2, h.f3, h.f4, h.f5, h.d0, h.d1, h.e0, h.e1, h.lt⟩
theorem tok_core {fn : Func} (hr : fn.results = #[.cell 2 50, .cell 3 111]) {w U : World} {i : Nat} {r : TokR} {tm : Array Value} {k a e p n : Int} {x y z : ByteArray} (R1 : RowAt U w.heap.size [.int .i64 k, .string x, .string y, .string z, .int .i64 a, .int .i64 e]) (R2 : RowAt U (w.heap.size + 1) [.int .i64 p, .int .i64 n]) (hB : Below w.heap.size w U)
  (h2 : tm.getD 2 undef = .pointer (some ⟨w.heap.size, 0, none⟩)) (h3 : tm.getD 3 undef = .pointer (some ⟨w.heap.size + 1, 0, none⟩)) (ht : TokRet (.returned (.tuple #[tokV k x y z a e, .agg #[.int .i64 p, .int .i64 n]])) i r) :
  bodyPost Tryz.prog fn (fun e' w' => TokRet e' i r /\ Below w.heap.size w w') .ret { tmps := tm, defers := [] } U := by
 refine bodyPost_ret (results_tk fn hr tm _ w.heap.size (w.heap.size + 1) k x y z a e p n h2 h3 (R1.cell (j := 0) (by simp)) (R1.cell (j := 1) (by simp)) (R1.cell (j := 2) (by simp)) (R1.cell (j := 3) (by simp)) (R1.cell (j := 4) (by simp)) (R1.cell (j := 5) (by simp)) (R2.cell (j := 0) (by simp)) (R2.cell (j := 1) (by simp))) rfl ?_
 exact ⟨ht, hB⟩
theorem tok_done {fn : Func} (hr : fn.results = #[.cell 2 50, .cell 3 111]) {w V : World} {i : Nat} {r : TokR} {tm : Array Value} {k a e p n : Int} {x y z : ByteArray} (hK : TkAt V w.heap.size) (hB : Below w.heap.size w V)
  (h2 : tm.getD 2 undef = .pointer (some ⟨w.heap.size, 0, none⟩)) (h3 : tm.getD 3 undef = .pointer (some ⟨w.heap.size + 1, 0, none⟩)) (ht : TokRet (.returned (.tuple #[tokV k x y z a e, .agg #[.int .i64 p, .int .i64 n]])) i r) :
  bodyPost Tryz.prog fn (fun e' w' => TokRet e' i r /\ Below w.heap.size w w') .ret { tmps := tm, defers := [] } ((((((((V.setCell ⟨w.heap.size, 0, none⟩ (.int .i64 k)).setCell ⟨w.heap.size, 1, none⟩ (.string x)).setCell ⟨w.heap.size, 2, none⟩ (.string y)).setCell ⟨w.heap.size, 3, none⟩ (.string z)).setCell ⟨w.heap.size, 4, none⟩ (.int .i64 a)).setCell ⟨w.heap.size, 5, none⟩ (.int .i64 e)).setCell ⟨w.heap.size + 1, 0, none⟩ (.int .i64 p)).setCell ⟨w.heap.size + 1, 1, none⟩ (.int .i64 n)) := by
 have R1 : RowAt V w.heap.size [.int .i64 0, .string ⟨#[]⟩, .string ⟨#[]⟩, .string ⟨#[]⟩, .int .i64 0, .int .i64 0] := fun j hj => by
  have hj6 : j = 0 \/ j = 1 \/ j = 2 \/ j = 3 \/ j = 4 \/ j = 5 := by simp at hj; omega
  rcases hj6 with rfl | rfl | rfl | rfl | rfl | rfl
  ·exact ⟨hK.a0, hK.f0⟩
  ·exact ⟨hK.a1, hK.f1⟩
  ·exact ⟨hK.a2, hK.f2⟩
  ·exact ⟨hK.a3, hK.f3⟩
  ·exact ⟨hK.a4, hK.f4⟩
  ·exact ⟨hK.a5, hK.f5⟩
 have R2 : RowAt V (w.heap.size + 1) [.int .i64 0, .int .i64 0] := fun j hj => by
  have hj2 : j = 0 \/ j = 1 := by simp at hj; omega
  rcases hj2 with rfl | rfl
  ·exact ⟨hK.d0, hK.e0⟩
  ·exact ⟨hK.d1, hK.e1⟩
 have S1 := ((((((R1.set (j := 0) (by simp) (.int .i64 k)).set (j := 1) (by simp) (.string x)).set (j := 2) (by simp) (.string y)).set (j := 3) (by simp) (.string z)).set (j := 4) (by simp) (.int .i64 a)).set (j := 5) (by simp) (.int .i64 e))
 have hne : w.heap.size ≠ w.heap.size + 1 := by omega
 have S2 := (S1.other (o := 0) hne (.int .i64 p)).other (o := 1) hne (.int .i64 n)
 have R3 := (((((R2.other (o := 0) hne.symm (.int .i64 k)).other (o := 1) hne.symm (.string x)).other (o := 2) hne.symm (.string y)).other (o := 3) hne.symm (.string z)).other (o := 4) hne.symm (.int .i64 a)).other (o := 5) hne.symm (.int .i64 e)
 have S3 := (R3.set (j := 0) (by simp) (.int .i64 p)).set (j := 1) (by simp) (.int .i64 n)
 have q0 : ∀ o, w.heap.size <= (⟨w.heap.size, o, none⟩ : Addr).block := fun _ => Nat.le_refl _
 have q1 : ∀ o, w.heap.size <= (⟨w.heap.size + 1, o, none⟩ : Addr).block := fun _ => Nat.le_succ _
 exact tok_core hr S2 S3 ((((((((hB.setCell (q0 0) _).setCell (q0 1) _).setCell (q0 2) _).setCell (q0 3) _).setCell (q0 4) _).setCell (q0 5) _).setCell (q1 0) _).setCell (q1 1) _) h2 h3 ht
theorem tok_done_a {fn : Func} (hr : fn.results = #[.cell 2 50, .cell 3 111]) {w V : World} {i : Nat} {r : TokR} {tm : Array Value} {k a e p n : Int} {x y z : ByteArray} {o : Obj} (hK : TkAt V w.heap.size) (hB : Below w.heap.size w V)
  (h2 : tm.getD 2 undef = .pointer (some ⟨w.heap.size, 0, none⟩)) (h3 : tm.getD 3 undef = .pointer (some ⟨w.heap.size + 1, 0, none⟩)) (ht : TokRet (.returned (.tuple #[tokV k x y z a e, .agg #[.int .i64 p, .int .i64 n]])) i r) :
  bodyPost Tryz.prog fn (fun e' w' => TokRet e' i r /\ Below w.heap.size w w') .ret { tmps := tm, defers := [] } (((((((((V.setCell ⟨w.heap.size, 0, none⟩ (.int .i64 k)).setCell ⟨w.heap.size, 1, none⟩ (.string x)).setCell ⟨w.heap.size, 2, none⟩ (.string y)).setCell ⟨w.heap.size, 3, none⟩ (.string z)).setCell ⟨w.heap.size, 4, none⟩ (.int .i64 a)).setCell ⟨w.heap.size, 5, none⟩ (.int .i64 e)).setCell ⟨w.heap.size + 1, 0, none⟩ (.int .i64 p)).setCell ⟨w.heap.size + 1, 1, none⟩ (.int .i64 n)).alloc o) := by
 have R1 : RowAt V w.heap.size [.int .i64 0, .string ⟨#[]⟩, .string ⟨#[]⟩, .string ⟨#[]⟩, .int .i64 0, .int .i64 0] := fun j hj => by
  have hj6 : j = 0 \/ j = 1 \/ j = 2 \/ j = 3 \/ j = 4 \/ j = 5 := by simp at hj; omega
  rcases hj6 with rfl | rfl | rfl | rfl | rfl | rfl
  ·exact ⟨hK.a0, hK.f0⟩
  ·exact ⟨hK.a1, hK.f1⟩
  ·exact ⟨hK.a2, hK.f2⟩
  ·exact ⟨hK.a3, hK.f3⟩
  ·exact ⟨hK.a4, hK.f4⟩
  ·exact ⟨hK.a5, hK.f5⟩
 have R2 : RowAt V (w.heap.size + 1) [.int .i64 0, .int .i64 0] := fun j hj => by
  have hj2 : j = 0 \/ j = 1 := by simp at hj; omega
  rcases hj2 with rfl | rfl
  ·exact ⟨hK.d0, hK.e0⟩
  ·exact ⟨hK.d1, hK.e1⟩
 have S1 := ((((((R1.set (j := 0) (by simp) (.int .i64 k)).set (j := 1) (by simp) (.string x)).set (j := 2) (by simp) (.string y)).set (j := 3) (by simp) (.string z)).set (j := 4) (by simp) (.int .i64 a)).set (j := 5) (by simp) (.int .i64 e))
 have hne : w.heap.size ≠ w.heap.size + 1 := by omega
 have S2 := (S1.other (o := 0) hne (.int .i64 p)).other (o := 1) hne (.int .i64 n)
 have R3 := (((((R2.other (o := 0) hne.symm (.int .i64 k)).other (o := 1) hne.symm (.string x)).other (o := 2) hne.symm (.string y)).other (o := 3) hne.symm (.string z)).other (o := 4) hne.symm (.int .i64 a)).other (o := 5) hne.symm (.int .i64 e)
 have S3 := (R3.set (j := 0) (by simp) (.int .i64 p)).set (j := 1) (by simp) (.int .i64 n)
 have q0 : ∀ o, w.heap.size <= (⟨w.heap.size, o, none⟩ : Addr).block := fun _ => Nat.le_refl _
 have q1 : ∀ o, w.heap.size <= (⟨w.heap.size + 1, o, none⟩ : Addr).block := fun _ => Nat.le_succ _
 have hU := ((((((((hB.setCell (q0 0) (.int .i64 k)).setCell (q0 1) (.string x)).setCell (q0 2) (.string y)).setCell (q0 3) (.string z)).setCell (q0 4) (.int .i64 a)).setCell (q0 5) (.int .i64 e)).setCell (q1 0) (.int .i64 p)).setCell (q1 1) (.int .i64 n))
 exact tok_core hr (RowAt.below S2 ((Below.refl _ _).alloc (Nat.le_refl _) o) (World.block_lt_of_cell? _ _ (S2.cell (j := 0) (by simp)))) (RowAt.below S3 ((Below.refl _ _).alloc (Nat.le_refl _) o) (World.block_lt_of_cell? _ _ (S3.cell (j := 0) (by simp)))) (hU.alloc hU.size o) h2 h3 ht
theorem tok_done_d {fn : Func} (hr : fn.results = #[.cell 2 50, .cell 3 111]) {w V : World} {i : Nat} {r : TokR} {tm : Array Value} {k a e p n : Int} {x y z : ByteArray} (hK : TkAt V w.heap.size) (hB : Below w.heap.size w V)
  (h2 : tm.getD 2 undef = .pointer (some ⟨w.heap.size, 0, none⟩)) (h3 : tm.getD 3 undef = .pointer (some ⟨w.heap.size + 1, 0, none⟩)) (ht : TokRet (.returned (.tuple #[tokV k x y z a e, .agg #[.int .i64 p, .int .i64 n]])) i r) :
  bodyPost Tryz.prog fn (fun e' w' => TokRet e' i r /\ Below w.heap.size w w') .ret { tmps := tm, defers := [] } ((((((((V.setCell ⟨w.heap.size, 0, none⟩ (.int .i64 k)).setCell ⟨w.heap.size, 1, none⟩ (.string x)).setCell ⟨w.heap.size, 2, none⟩ (.string y)).setCell ⟨w.heap.size, 3, none⟩ (.string z)).setCell ⟨w.heap.size, 4, none⟩ (.int .i64 a)).setCell ⟨w.heap.size, 5, none⟩ (.int .i64 e)).setCell ⟨w.heap.size + 1, 0, none⟩ (.int .i64 p)).setCell ⟨w.heap.size + 1, 1, none⟩ (.int .i64 n)).drew := by
 have R1 : RowAt V w.heap.size [.int .i64 0, .string ⟨#[]⟩, .string ⟨#[]⟩, .string ⟨#[]⟩, .int .i64 0, .int .i64 0] := fun j hj => by
  have hj6 : j = 0 \/ j = 1 \/ j = 2 \/ j = 3 \/ j = 4 \/ j = 5 := by simp at hj; omega
  rcases hj6 with rfl | rfl | rfl | rfl | rfl | rfl
  ·exact ⟨hK.a0, hK.f0⟩
  ·exact ⟨hK.a1, hK.f1⟩
  ·exact ⟨hK.a2, hK.f2⟩
  ·exact ⟨hK.a3, hK.f3⟩
  ·exact ⟨hK.a4, hK.f4⟩
  ·exact ⟨hK.a5, hK.f5⟩
 have R2 : RowAt V (w.heap.size + 1) [.int .i64 0, .int .i64 0] := fun j hj => by
  have hj2 : j = 0 \/ j = 1 := by simp at hj; omega
  rcases hj2 with rfl | rfl
  ·exact ⟨hK.d0, hK.e0⟩
  ·exact ⟨hK.d1, hK.e1⟩
 have S1 := ((((((R1.set (j := 0) (by simp) (.int .i64 k)).set (j := 1) (by simp) (.string x)).set (j := 2) (by simp) (.string y)).set (j := 3) (by simp) (.string z)).set (j := 4) (by simp) (.int .i64 a)).set (j := 5) (by simp) (.int .i64 e))
 have hne : w.heap.size ≠ w.heap.size + 1 := by omega
 have S2 := (S1.other (o := 0) hne (.int .i64 p)).other (o := 1) hne (.int .i64 n)
 have R3 := (((((R2.other (o := 0) hne.symm (.int .i64 k)).other (o := 1) hne.symm (.string x)).other (o := 2) hne.symm (.string y)).other (o := 3) hne.symm (.string z)).other (o := 4) hne.symm (.int .i64 a)).other (o := 5) hne.symm (.int .i64 e)
 have S3 := (R3.set (j := 0) (by simp) (.int .i64 p)).set (j := 1) (by simp) (.int .i64 n)
 have q0 : ∀ o, w.heap.size <= (⟨w.heap.size, o, none⟩ : Addr).block := fun _ => Nat.le_refl _
 have q1 : ∀ o, w.heap.size <= (⟨w.heap.size + 1, o, none⟩ : Addr).block := fun _ => Nat.le_succ _
 have hU := ((((((((hB.setCell (q0 0) (.int .i64 k)).setCell (q0 1) (.string x)).setCell (q0 2) (.string y)).setCell (q0 3) (.string z)).setCell (q0 4) (.int .i64 a)).setCell (q0 5) (.int .i64 e)).setCell (q1 0) (.int .i64 p)).setCell (q1 1) (.int .i64 n))
 exact tok_core hr (RowAt.drew S2) (RowAt.drew S3) hU.drew h2 h3 ht
theorem tk_new (w : World) : RowAt ((w.alloc (.cells #[.int .i64 0, .string ⟨#[]⟩, .string ⟨#[]⟩, .string ⟨#[]⟩, .int .i64 0, .int .i64 0] 50)).alloc (.cells #[.int .i64 0, .int .i64 0] 111)) w.heap.size [.int .i64 0, .string ⟨#[]⟩, .string ⟨#[]⟩, .string ⟨#[]⟩, .int .i64 0, .int .i64 0] /\ RowAt ((w.alloc (.cells #[.int .i64 0, .string ⟨#[]⟩, .string ⟨#[]⟩, .string ⟨#[]⟩, .int .i64 0, .int .i64 0] 50)).alloc (.cells #[.int .i64 0, .int .i64 0] 111)) (w.heap.size + 1) [.int .i64 0, .int .i64 0] := by
 have h0 := heap_alloc_new w (.cells #[.int .i64 0, .string ⟨#[]⟩, .string ⟨#[]⟩, .string ⟨#[]⟩, .int .i64 0, .int .i64 0] 50)
 have h1 := (heap_alloc_old (w.alloc (.cells #[.int .i64 0, .string ⟨#[]⟩, .string ⟨#[]⟩, .string ⟨#[]⟩, .int .i64 0, .int .i64 0] 50)) (.cells #[.int .i64 0, .int .i64 0] 111) (r := w.heap.size) (by simp)).trans h0
 have h2 := heap_alloc_new (w.alloc (.cells #[.int .i64 0, .string ⟨#[]⟩, .string ⟨#[]⟩, .string ⟨#[]⟩, .int .i64 0, .int .i64 0] 50)) (.cells #[.int .i64 0, .int .i64 0] 111)
 rw [show (w.alloc (.cells #[.int .i64 0, .string ⟨#[]⟩, .string ⟨#[]⟩, .string ⟨#[]⟩, .int .i64 0, .int .i64 0] 50)).heap.size = w.heap.size + 1 by simp] at h2
 exact ⟨rowAt_of_heap h1, rowAt_of_heap h2⟩
theorem below_drewN_h {a W : World} (h : Below a.heap.size a W) (n : Nat) : Below a.heap.size a (W.drewN n) := h.trans ((below_drewN W n).mono h.size)
theorem quiet_same {P : Program} {f : FuncId} {args : Array Value} {w : World} {a : Nat} {v : Value} (h : Calls P f args (w.drewN a) fun e w' => e = .returned v /\ w' = w.drewN a) : Calls P f args (w.drewN a) fun e w'' => e = .returned v /\ ∃ m, w'' = w.drewN m := h.mono fun _ _ ⟨he, hm⟩ => ⟨he, a, hm⟩
theorem has_two {l : List UInt8} {i : Nat} {c d : UInt8} (hi : i < l.length) (hc : l.getD i 0 = c) : Lib.hasPrefix (List.drop i l) [c, d] = decide (i + 1 < l.length /\ l.getD (i + 1) 0 = d) := by
 have h1 : List.drop i l = c :: List.drop (i + 1) l := by rw [List.drop_eq_getElem_cons hi, <- hc]; simp [List.getD, hi]
 rw [h1]
 by_cases h : i + 1 < l.length
 ·have hg : l.getD (i + 1) 0 = l[i + 1] := by simp [List.getD, h]
  rw [List.drop_eq_getElem_cons h, hg]
  show (c == c && (d == l[i + 1] && true)) = _
  rw [beq_self_eq_true, Bool.true_and, Bool.and_true]
  by_cases e : l[i + 1] = d
  ·rw [e, beq_self_eq_true, decide_eq_true ⟨h, rfl⟩]
  ·rw [beq_eq_false_iff_ne.2 (fun x => e x.symm), decide_eq_false (fun x => e x.2)]
 ·rw [List.drop_eq_nil_of_le (by omega), decide_eq_false (fun x => h x.1)]
  show (c == c && false) = false
  rw [Bool.and_false]
set_option maxHeartbeats 1600000 in
theorem lexBlank_l (l : List UInt8) (bad : Int) (i : Nat) (ev : Value) (b : Nat) (w : World) (h : LexAt w b l bad i ev) (hi : i < l.length) (hc : l.getD i 0 = 95) (hl : l.length <= 16777216) (hT : TabAt w) :
  Calls Tryz.prog 67 #[.pointer (some ⟨b, 0, none⟩)] w fun e w' => TokRet e i (labelG l i) /\ Below w.heap.size w w' := by
 obtain ⟨pb, hv⟩ : ∃ pb, decide (i + 1 < l.length /\ l.getD (i + 1) 0 = 58) = pb := ⟨_, rfl⟩
 have HQ : Hid (∀ u, Calls Tryz.prog 73 #[.string (B (List.drop i l)), .string { data := #[95, 58] }] u fun e w' => e = .returned (.bool pb) /\ w' = u) := hid (fun u => by
  have := Tryz.strings_HasPrefix (B (List.drop i l)) { data := #[95, 58] } u
  rw [show (B (List.drop i l)).data.toList = List.drop i l from B_toList _, show ({ data := #[95, 58] } : ByteArray).data.toList = [95, 58] from rfl, has_two hi hc, hv] at this
  exact this)
 obtain ⟨W, hW⟩ : ∃ W, (w.alloc (.cells #[.int .i64 0, .string ⟨#[]⟩, .string ⟨#[]⟩, .string ⟨#[]⟩, .int .i64 0, .int .i64 0] 50)).alloc (.cells #[.int .i64 0, .int .i64 0] 111) = W := ⟨_, rfl⟩
 have HB0 : Hid (Below w.heap.size w W) := hid (by rw [<- hW]; exact ((Below.refl _ _).alloc (Nat.le_refl _) _).alloc (by simp) _)
 have HK : Hid (TkAt W w.heap.size) := hid (by rw [<- hW]; exact tkAt_of (tk_new w).1 (tk_new w).2)
 obtain ⟨a0, a1, a2, a3, a4, a5, p0, p1, p2, p3, p4, p5, d0, d1, e0, e1, hlt⟩ := HK.out
 have HX := hid (h.below HB0.out)
 obtain ⟨x0, x1, x2, x3, f0, f1, f2, f3⟩ := RowAt.four HX.out
 have hbl := HX.out.lt
 have hn0 : ¬ b = w.heap.size := by have := h.lt; omega
 have hn1 : ¬ b = w.heap.size + 1 := by have := h.lt; omega
 have k0 : (0 : Int) <= (i : Int) := by omega
 have k1 : (i : Int) <= (l.length : Int) := by omega
 have tk : List.take (l.length - i) (List.drop i l) = List.drop i l := List.take_of_length_le (by simp)
 go_enter Tryz.func67, Tryz.ntmps67
 go_wp2_with fail
 have HV := hid hv
 clear hv
 cases pb
 ·go_quiet ((go_at_call 73; exact quiet_same (HQ.out _)))
  go_wp2_with fail
  go_region
  all_goals (go_wp2_with fail)
  have HR : labelG l i = .inr (i, 100) := by unfold labelG; rw [if_pos (by have := of_decide_eq_false HV.out; by_cases h : i + 1 < l.length; exact .inr (fun e => this ⟨h, e⟩); exact .inl (by omega))]
  exact tok_done rfl (HK.out.drewN _) (below_drewN_h HB0.out _) rfl rfl (by rw [HR]; exact ⟨_, _, _, _, _, _, rfl⟩)
 ·obtain ⟨h1, h2⟩ := of_decide_eq_true HV.out
  have LA := hid (fun (u : World) (hb : Below w.heap.size w u) => labelAt_l l ((i : Int) + 2) u (by omega) (by omega) (hT.below hb))
  have e2 : ((i : Int) + 2) = ((i + 2 : Nat) : Int) := by omega
  have WA : IntKind.i64.wrap ((i : Int) + 2) = (i : Int) + 2 := IntWalk.i64_in _ (by omega)
  obtain ⟨k, hk⟩ : ∃ k, runF labelB l ((i : Int) + 2) = k := ⟨_, rfl⟩
  have hk2 := runF_le labelB l (i + 2)
  rw [<- e2, hk] at hk2
  rw [hk] at LA
  by_cases h0 : k = 0
  ·subst h0
   have HR : labelG l i = .inr (i + 2, 60) := by unfold labelG; rw [if_neg (by rintro (h | h); omega; exact h h2), if_pos (by rw [<- e2]; exact hk)]
   clear e2 hk hk2
   go_quiet ((go_at_call 73; exact quiet_same (HQ.out _)))
   go_wp2_with (go_at_call 98; (with_reducible refine (LA.out _ (below_drewN_h HB0.out _)).mono ?_); rintro e w2 ⟨rfl, rfl⟩)
   exact tok_done rfl (HK.out.drewN _) (below_drewN_h HB0.out _) rfl rfl (by rw [HR]; exact ⟨_, _, _, _, _, _, rfl⟩)
  ·have HR : labelG l i = .inl ⟨3, cutF l (i + 2) (i + 2 + k), [], [], (i : Nat), (i + 2 + k : Nat)⟩ := by unfold labelG; rw [if_neg (by rintro (h | h); omega; exact h h2), if_neg (by rw [<- e2, hk]; exact h0), <- e2, hk]
   have kn : ((k : Int) == 0) = false := beq_eq_false_iff_ne.2 (by omega)
   have WB : IntKind.i64.wrap ((i : Int) + 2 + (k : Int)) = (i : Int) + 2 + (k : Int) := IntWalk.i64_in _ (by omega)
   have WC : IntKind.i64.wrap (2 + (k : Int)) = 2 + (k : Int) := IntWalk.i64_in _ (by omega)
   have b1 : (0 : Int) <= (i : Int) + 2 := by omega
   have b2 : (i : Int) + 2 <= (i : Int) + 2 + (k : Int) := by omega
   have b3 : (i : Int) + 2 + (k : Int) <= (l.length : Int) := by omega
   clear e2 hk
   go_quiet ((go_at_call 73; exact quiet_same (HQ.out _)))
   go_wp2_with (go_at_call 98; (with_reducible refine (LA.out _ (below_drewN_h HB0.out _)).mono ?_); rintro e w2 ⟨rfl, rfl⟩)
   exact tok_done rfl (HK.out.drewN _) (below_drewN_h HB0.out _) rfl rfl (by rw [HR]; exact tokRet_of (t := ⟨3, cutF l (i + 2) (i + 2 + k), [], [], (i : Nat), (i + 2 + k : Nat)⟩) (by unfold cutF; rw [Nat.add_sub_cancel_left]) rfl rfl (by simp only; omega))
end Go.Proofs.YtdhmpakhdhdebaaGreatDoor
