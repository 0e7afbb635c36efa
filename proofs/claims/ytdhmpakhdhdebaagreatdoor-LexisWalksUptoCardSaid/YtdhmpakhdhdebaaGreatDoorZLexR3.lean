/-
  tesseraref10.label, tag: contracts. By an AI agent.
-/
import Derived.Test.YtdhmpakhdhdebaaGreatDoorZRefLocal
import Derived.Test.YtdhmpakhdhdebaaGreatDoorZLexW9
namespace Go.Proofs.YtdhmpakhdhdebaaGreatDoor
open Go.Lib (hid)
open Go.RowKit
set_option maxRecDepth 100000
def TokRef (e : Ending) : TokR -> Prop
 | .inl t => e = .returned (.tuple #[tokV t.kind (B t.text) (B t.loc) (B t.typ) t.at_ t.fin, .agg #[.int .i64 0, .int .i64 0]])
 | .inr (p, n) => e = .returned (.tuple #[tokV 0 ⟨#[]⟩ ⟨#[]⟩ ⟨#[]⟩ 0 0, .agg #[.int .i64 (p : Int), .int .i64 n]])
theorem tokRef_of {t : TokL} {x y z : ByteArray} {a e : Int} (h1 : x = B t.text) (h2 : y = B t.loc) (h3 : z = B t.typ) (h4 : a = t.at_) (h5 : e = t.fin) : TokRef (.returned (.tuple #[tokV t.kind x y z a e, .agg #[.int .i64 0, .int .i64 0]])) (.inl t) := by
 subst h1 h2 h3 h4 h5
 rfl
theorem results_tr (fn : Func) (hr : fn.results = #[.cell 4 50, .cell 5 64]) (tm : Array Value) (u : World) (g f : Nat) (k : Int) (x y z : ByteArray) (a e p n : Int) (h2 : tm.getD 4 undef = .pointer (some ⟨g, 0, none⟩)) (h3 : tm.getD 5 undef = .pointer (some ⟨f, 0, none⟩))
  (c0 : u.cell? ⟨g, 0, none⟩ = some (.int .i64 k)) (c1 : u.cell? ⟨g, 1, none⟩ = some (.string x)) (c2 : u.cell? ⟨g, 2, none⟩ = some (.string y)) (c3 : u.cell? ⟨g, 3, none⟩ = some (.string z)) (c4 : u.cell? ⟨g, 4, none⟩ = some (.int .i64 a)) (c5 : u.cell? ⟨g, 5, none⟩ = some (.int .i64 e))
  (d0 : u.cell? ⟨f, 0, none⟩ = some (.int .i64 p)) (d1 : u.cell? ⟨f, 1, none⟩ = some (.int .i64 n)) :
  (results fn tm).run Tryz.prog u = .ok (.tuple #[tokV k x y z a e, .agg #[.int .i64 p, .int .i64 n]]) u := by
 rw [Array.getD_eq_getD_getElem?] at h2 h3
 simp [results, hr, h2, h3, go_sem, c0, c1, c2, c3, c4, c5, d0, d1, tokV]
theorem tokr_core {fn : Func} (hr : fn.results = #[.cell 4 50, .cell 5 64]) {w U : World} {r : TokR} {tm : Array Value} {k a e p n : Int} {x y z : ByteArray} (R1 : RowAt U w.heap.size [.int .i64 k, .string x, .string y, .string z, .int .i64 a, .int .i64 e]) (R2 : RowAt U (w.heap.size + 1) [.int .i64 p, .int .i64 n]) (hB : Below w.heap.size w U)
  (h2 : tm.getD 4 undef = .pointer (some ⟨w.heap.size, 0, none⟩)) (h3 : tm.getD 5 undef = .pointer (some ⟨w.heap.size + 1, 0, none⟩)) (ht : TokRef (.returned (.tuple #[tokV k x y z a e, .agg #[.int .i64 p, .int .i64 n]])) r) :
  bodyPost Tryz.prog fn (fun e' w' => TokRef e' r /\ Below w.heap.size w w') .ret { tmps := tm, defers := [] } U := by
 refine bodyPost_ret (results_tr fn hr tm _ w.heap.size (w.heap.size + 1) k x y z a e p n h2 h3 (R1.cell (j := 0) (by simp)) (R1.cell (j := 1) (by simp)) (R1.cell (j := 2) (by simp)) (R1.cell (j := 3) (by simp)) (R1.cell (j := 4) (by simp)) (R1.cell (j := 5) (by simp)) (R2.cell (j := 0) (by simp)) (R2.cell (j := 1) (by simp))) rfl ?_
 exact ⟨ht, hB⟩
theorem tokr_rows {w V : World} {k a e p n : Int} {x y z : ByteArray} (hK : TkAt V w.heap.size) (hB : Below w.heap.size w V) :
  RowAt ((((((((V.setCell ⟨w.heap.size, 0, none⟩ (.int .i64 k)).setCell ⟨w.heap.size, 1, none⟩ (.string x)).setCell ⟨w.heap.size, 2, none⟩ (.string y)).setCell ⟨w.heap.size, 3, none⟩ (.string z)).setCell ⟨w.heap.size, 4, none⟩ (.int .i64 a)).setCell ⟨w.heap.size, 5, none⟩ (.int .i64 e)).setCell ⟨w.heap.size + 1, 0, none⟩ (.int .i64 p)).setCell ⟨w.heap.size + 1, 1, none⟩ (.int .i64 n)) w.heap.size [.int .i64 k, .string x, .string y, .string z, .int .i64 a, .int .i64 e] /\
  RowAt ((((((((V.setCell ⟨w.heap.size, 0, none⟩ (.int .i64 k)).setCell ⟨w.heap.size, 1, none⟩ (.string x)).setCell ⟨w.heap.size, 2, none⟩ (.string y)).setCell ⟨w.heap.size, 3, none⟩ (.string z)).setCell ⟨w.heap.size, 4, none⟩ (.int .i64 a)).setCell ⟨w.heap.size, 5, none⟩ (.int .i64 e)).setCell ⟨w.heap.size + 1, 0, none⟩ (.int .i64 p)).setCell ⟨w.heap.size + 1, 1, none⟩ (.int .i64 n)) (w.heap.size + 1) [.int .i64 p, .int .i64 n] /\
  Below w.heap.size w ((((((((V.setCell ⟨w.heap.size, 0, none⟩ (.int .i64 k)).setCell ⟨w.heap.size, 1, none⟩ (.string x)).setCell ⟨w.heap.size, 2, none⟩ (.string y)).setCell ⟨w.heap.size, 3, none⟩ (.string z)).setCell ⟨w.heap.size, 4, none⟩ (.int .i64 a)).setCell ⟨w.heap.size, 5, none⟩ (.int .i64 e)).setCell ⟨w.heap.size + 1, 0, none⟩ (.int .i64 p)).setCell ⟨w.heap.size + 1, 1, none⟩ (.int .i64 n)) := by
 have R1 : RowAt V w.heap.size [.int .i64 0, .string ⟨#[]⟩, .string ⟨#[]⟩, .string ⟨#[]⟩, .int .i64 0, .int .i64 0] := fun j hj => by
  have hj6 : j = 0 \/ j = 1 \/ j = 2 \/ j = 3 \/ j = 4 \/ j = 5 := by simp at hj; omega
  rcases hj6 with rfl | rfl | rfl | rfl | rfl | rfl
  ·exact ⟨hK.a0, hK.f0⟩
  ·exact ⟨hK.a1, hK.f1⟩
  ·exact ⟨hK.a2, hK.f2⟩
  ·exact ⟨hK.a3, hK.f3⟩
  ·exact ⟨hK.a4, hK.f4⟩
  ·exact ⟨hK.a5, hK.f5⟩
 have R2 : RowAt V (w.heap.size + 1) [.int .i64 0, .int .i64 0] := fun j hj => by
  have hj2 : j = 0 \/ j = 1 := by simp at hj; omega
  rcases hj2 with rfl | rfl
  ·exact ⟨hK.d0, hK.e0⟩
  ·exact ⟨hK.d1, hK.e1⟩
 have S1 := ((((((R1.set (j := 0) (by simp) (.int .i64 k)).set (j := 1) (by simp) (.string x)).set (j := 2) (by simp) (.string y)).set (j := 3) (by simp) (.string z)).set (j := 4) (by simp) (.int .i64 a)).set (j := 5) (by simp) (.int .i64 e))
 have hne : w.heap.size ≠ w.heap.size + 1 := by omega
 have S2 := (S1.other (o := 0) hne (.int .i64 p)).other (o := 1) hne (.int .i64 n)
 have R3 := (((((R2.other (o := 0) hne.symm (.int .i64 k)).other (o := 1) hne.symm (.string x)).other (o := 2) hne.symm (.string y)).other (o := 3) hne.symm (.string z)).other (o := 4) hne.symm (.int .i64 a)).other (o := 5) hne.symm (.int .i64 e)
 have S3 := (R3.set (j := 0) (by simp) (.int .i64 p)).set (j := 1) (by simp) (.int .i64 n)
 have q0 : ∀ o, w.heap.size <= (⟨w.heap.size, o, none⟩ : Addr).block := fun _ => Nat.le_refl _
 have q1 : ∀ o, w.heap.size <= (⟨w.heap.size + 1, o, none⟩ : Addr).block := fun _ => Nat.le_succ _
 exact ⟨S2, S3, (((((((hB.setCell (q0 0) _).setCell (q0 1) _).setCell (q0 2) _).setCell (q0 3) _).setCell (q0 4) _).setCell (q0 5) _).setCell (q1 0) _).setCell (q1 1) _⟩
theorem tokr_done {fn : Func} (hr : fn.results = #[.cell 4 50, .cell 5 64]) {w V : World} {r : TokR} {tm : Array Value} {k a e p n : Int} {x y z : ByteArray} (hK : TkAt V w.heap.size) (hB : Below w.heap.size w V)
  (h2 : tm.getD 4 undef = .pointer (some ⟨w.heap.size, 0, none⟩)) (h3 : tm.getD 5 undef = .pointer (some ⟨w.heap.size + 1, 0, none⟩)) (ht : TokRef (.returned (.tuple #[tokV k x y z a e, .agg #[.int .i64 p, .int .i64 n]])) r) :
  bodyPost Tryz.prog fn (fun e' w' => TokRef e' r /\ Below w.heap.size w w') .ret { tmps := tm, defers := [] } ((((((((V.setCell ⟨w.heap.size, 0, none⟩ (.int .i64 k)).setCell ⟨w.heap.size, 1, none⟩ (.string x)).setCell ⟨w.heap.size, 2, none⟩ (.string y)).setCell ⟨w.heap.size, 3, none⟩ (.string z)).setCell ⟨w.heap.size, 4, none⟩ (.int .i64 a)).setCell ⟨w.heap.size, 5, none⟩ (.int .i64 e)).setCell ⟨w.heap.size + 1, 0, none⟩ (.int .i64 p)).setCell ⟨w.heap.size + 1, 1, none⟩ (.int .i64 n)) :=
 have h := tokr_rows (w := w) (V := V) (k := k) (a := a) (e := e) (p := p) (n := n) (x := x) (y := y) (z := z) hK hB
 tokr_core hr h.1 h.2.1 h.2.2 h2 h3 ht
theorem tokr_done_a {fn : Func} (hr : fn.results = #[.cell 4 50, .cell 5 64]) {w V : World} {r : TokR} {tm : Array Value} {k a e p n : Int} {x y z : ByteArray} {o : Obj} (hK : TkAt V w.heap.size) (hB : Below w.heap.size w V)
  (h2 : tm.getD 4 undef = .pointer (some ⟨w.heap.size, 0, none⟩)) (h3 : tm.getD 5 undef = .pointer (some ⟨w.heap.size + 1, 0, none⟩)) (ht : TokRef (.returned (.tuple #[tokV k x y z a e, .agg #[.int .i64 p, .int .i64 n]])) r) :
  bodyPost Tryz.prog fn (fun e' w' => TokRef e' r /\ Below w.heap.size w w') .ret { tmps := tm, defers := [] } (((((((((V.setCell ⟨w.heap.size, 0, none⟩ (.int .i64 k)).setCell ⟨w.heap.size, 1, none⟩ (.string x)).setCell ⟨w.heap.size, 2, none⟩ (.string y)).setCell ⟨w.heap.size, 3, none⟩ (.string z)).setCell ⟨w.heap.size, 4, none⟩ (.int .i64 a)).setCell ⟨w.heap.size, 5, none⟩ (.int .i64 e)).setCell ⟨w.heap.size + 1, 0, none⟩ (.int .i64 p)).setCell ⟨w.heap.size + 1, 1, none⟩ (.int .i64 n)).alloc o) :=
 have h := tokr_rows (w := w) (V := V) (k := k) (a := a) (e := e) (p := p) (n := n) (x := x) (y := y) (z := z) hK hB
 tokr_core hr (RowAt.below h.1 ((Below.refl _ _).alloc (Nat.le_refl _) o) (World.block_lt_of_cell? _ _ (h.1.cell (j := 0) (by simp)))) (RowAt.below h.2.1 ((Below.refl _ _).alloc (Nat.le_refl _) o) (World.block_lt_of_cell? _ _ (h.2.1.cell (j := 0) (by simp)))) (h.2.2.alloc h.2.2.size o) h2 h3 ht
theorem tokr_done_d {fn : Func} (hr : fn.results = #[.cell 4 50, .cell 5 64]) {w V : World} {r : TokR} {tm : Array Value} {k a e p n : Int} {x y z : ByteArray} (hK : TkAt V w.heap.size) (hB : Below w.heap.size w V)
  (h2 : tm.getD 4 undef = .pointer (some ⟨w.heap.size, 0, none⟩)) (h3 : tm.getD 5 undef = .pointer (some ⟨w.heap.size + 1, 0, none⟩)) (ht : TokRef (.returned (.tuple #[tokV k x y z a e, .agg #[.int .i64 p, .int .i64 n]])) r) :
  bodyPost Tryz.prog fn (fun e' w' => TokRef e' r /\ Below w.heap.size w w') .ret { tmps := tm, defers := [] } ((((((((V.setCell ⟨w.heap.size, 0, none⟩ (.int .i64 k)).setCell ⟨w.heap.size, 1, none⟩ (.string x)).setCell ⟨w.heap.size, 2, none⟩ (.string y)).setCell ⟨w.heap.size, 3, none⟩ (.string z)).setCell ⟨w.heap.size, 4, none⟩ (.int .i64 a)).setCell ⟨w.heap.size, 5, none⟩ (.int .i64 e)).setCell ⟨w.heap.size + 1, 0, none⟩ (.int .i64 p)).setCell ⟨w.heap.size + 1, 1, none⟩ (.int .i64 n)).drew :=
 have h := tokr_rows (w := w) (V := V) (k := k) (a := a) (e := e) (p := p) (n := n) (x := x) (y := y) (z := z) hK hB
 tokr_core hr (RowAt.drew h.1) (RowAt.drew h.2.1) h.2.2.drew h2 h3 ht
theorem tkr_new (w : World) : TkAt ((w.alloc (.cells #[.int .i64 0, .string ⟨#[]⟩, .string ⟨#[]⟩, .string ⟨#[]⟩, .int .i64 0, .int .i64 0] 50)).alloc (.cells #[.int .i64 0, .int .i64 0] 64)) w.heap.size := by
 have h0 := heap_alloc_new w (.cells #[.int .i64 0, .string ⟨#[]⟩, .string ⟨#[]⟩, .string ⟨#[]⟩, .int .i64 0, .int .i64 0] 50)
 have h1 := (heap_alloc_old (w.alloc (.cells #[.int .i64 0, .string ⟨#[]⟩, .string ⟨#[]⟩, .string ⟨#[]⟩, .int .i64 0, .int .i64 0] 50)) (.cells #[.int .i64 0, .int .i64 0] 64) (r := w.heap.size) (by simp)).trans h0
 have h2 := heap_alloc_new (w.alloc (.cells #[.int .i64 0, .string ⟨#[]⟩, .string ⟨#[]⟩, .string ⟨#[]⟩, .int .i64 0, .int .i64 0] 50)) (.cells #[.int .i64 0, .int .i64 0] 64)
 rw [show (w.alloc (.cells #[.int .i64 0, .string ⟨#[]⟩, .string ⟨#[]⟩, .string ⟨#[]⟩, .int .i64 0, .int .i64 0] 50)).heap.size = w.heap.size + 1 by simp] at h2
 exact tkAt_of (rowAt_of_heap h1) (rowAt_of_heap h2)
set_option maxHeartbeats 3200000 in
theorem refLabel10_l (l : List UInt8) (i : Nat) (w : World) (hi : i < l.length) (hl : l.length <= 1048576) :
  Calls Tryz.prog 114 #[.string (B l), .int .i64 (i : Int)] w fun e w' => TokRef e (labelG l i) /\ Below w.heap.size w w' := by
 obtain ⟨W, hW⟩ : ∃ W, (w.alloc (.cells #[.int .i64 0, .string ⟨#[]⟩, .string ⟨#[]⟩, .string ⟨#[]⟩, .int .i64 0, .int .i64 0] 50)).alloc (.cells #[.int .i64 0, .int .i64 0] 64) = W := ⟨_, rfl⟩
 have HB0 : Hid (Below w.heap.size w W) := hid (by rw [<- hW]; exact ((Below.refl _ _).alloc (Nat.le_refl _) _).alloc (by simp) _)
 have HK : Hid (TkAt W w.heap.size) := hid (by rw [<- hW]; exact tkr_new w)
 have k0 : (0 : Int) <= (i : Int) := by omega
 have k1 : (i : Int) <= (l.length : Int) := by omega
 obtain ⟨a0, a1, a2, a3, a4, a5, p0, p1, p2, p3, p4, p5, d0, d1, e0, e1, hlt⟩ := HK.out
 have hlt0 := Nat.lt_of_succ_lt hlt
 have W1 : IntKind.i64.wrap ((i : Int) + 1) = (i : Int) + 1 := IntWalk.i64_in _ (by omega)
 have W2 : IntKind.i64.wrap ((i : Int) + 2) = (i : Int) + 2 := IntWalk.i64_in _ (by omega)
 have LA := hid (fun (u : World) => refLabelAt_l l ((i : Int) + 2) u (by omega) (by omega))
 by_cases h1 : i + 1 < l.length
 case neg =>
  have c1 : decide ((l.length : Int) <= (i : Int) + 1) = true := decide_eq_true (by omega)
  have c2 : decide (l.length <= i + 1) = true := decide_eq_true (by omega)
  have HR : labelG l i = .inr (i, 100) := by unfold labelG; rw [if_pos (.inl (by omega))]
  go_enter Tryz.func114, Tryz.ntmps114
  go_wp2_with fail
  exact tokr_done (V := W) rfl HK.out HB0.out rfl rfl (by rw [HR]; rfl)
 have c1 : decide ((l.length : Int) <= (i : Int) + 1) = false := decide_eq_false (by omega)
 have c2 : decide (l.length <= i + 1) = false := decide_eq_false (by omega)
 have c3 : (i : Int) + 1 < (l.length : Int) := by omega
 have c4 : (0 : Int) <= (i : Int) + 1 := by omega
 have hg : l.getD (i + 1) 0 = l[i + 1] := by simp [List.getD, h1]
 by_cases h58 : l[i + 1] = 58
 case neg =>
  have y1 : ((l[i + 1].toNat : Int) != 58) = true := byte_nei (d := 58) h58
  have HR : labelG l i = .inr (i, 100) := by unfold labelG; rw [if_pos (.inr (by rw [hg]; exact h58))]
  clear hg
  go_enter Tryz.func114, Tryz.ntmps114
  go_wp2_with fail
  exact tokr_done (V := W) rfl HK.out HB0.out rfl rfl (by rw [HR]; rfl)
 have y1 : ((l[i + 1].toNat : Int) != 58) = false := byte_eqi (d := 58) h58
 have e2 : ((i : Int) + 2) = ((i + 2 : Nat) : Int) := by omega
 obtain ⟨k, hk⟩ : ∃ k, runF labelB l ((i : Int) + 2) = k := ⟨_, rfl⟩
 have hk2 := runF_le labelB l (i + 2)
 rw [<- e2, hk] at hk2
 rw [hk] at LA
 by_cases hk0 : k = 0
 ·subst hk0
  have HR : labelG l i = .inr (i + 2, 60) := by unfold labelG; rw [if_neg (by rintro (h | h); omega; exact h (by rw [hg]; exact h58)), if_pos (by rw [<- e2]; exact hk)]
  clear hg h58 hk hk2
  have HE := hid e2
  clear e2
  go_enter Tryz.func114, Tryz.ntmps114
  go_wp2_with (go_at_call 165; (with_reducible refine (LA.out _).mono ?_); rintro e w2 ⟨rfl, hb⟩; replace HK := hid (HK.out.below hb); replace HB0 := hid (HB0.out.trans (hb.mono HB0.out.size)); clear a0 a1 a2 a3 a4 a5 p0 p1 p2 p3 p4 p5 d0 d1 e0 e1 hlt hlt0 hb; obtain ⟨a0, a1, a2, a3, a4, a5, p0, p1, p2, p3, p4, p5, d0, d1, e0, e1, hlt⟩ := HK.out; have hlt0 := Nat.lt_of_succ_lt hlt)
  exact tokr_done (V := w2) rfl HK.out HB0.out rfl rfl (by rw [HR, HE.out]; rfl)
 ·have HR : labelG l i = .inl ⟨3, cutF l (i + 2) (i + 2 + k), [], [], (i : Nat), (i + 2 + k : Nat)⟩ := by unfold labelG; rw [if_neg (by rintro (h | h); omega; exact h (by rw [hg]; exact h58)), if_neg (by rw [<- e2, hk]; exact hk0), <- e2, hk]
  have kn : ((k : Int) == 0) = false := beq_eq_false_iff_ne.2 (by omega)
  have WB : IntKind.i64.wrap ((i : Int) + 2 + (k : Int)) = (i : Int) + 2 + (k : Int) := IntWalk.i64_in _ (by omega)
  have b1 : (0 : Int) <= (i : Int) + 2 := by omega
  have b2 : (i : Int) + 2 <= (i : Int) + 2 + (k : Int) := by omega
  have b3 : (i : Int) + 2 + (k : Int) <= (l.length : Int) := by omega
  clear hg h58 hk e2
  go_enter Tryz.func114, Tryz.ntmps114
  go_wp2_with (go_at_call 165; (with_reducible refine (LA.out _).mono ?_); rintro e w2 ⟨rfl, hb⟩; replace HK := hid (HK.out.below hb); replace HB0 := hid (HB0.out.trans (hb.mono HB0.out.size)); clear a0 a1 a2 a3 a4 a5 p0 p1 p2 p3 p4 p5 d0 d1 e0 e1 hlt hlt0 hb; obtain ⟨a0, a1, a2, a3, a4, a5, p0, p1, p2, p3, p4, p5, d0, d1, e0, e1, hlt⟩ := HK.out; have hlt0 := Nat.lt_of_succ_lt hlt)
  exact tokr_done (V := w2) rfl HK.out HB0.out rfl rfl (by rw [HR]; exact tokRef_of (t := ⟨3, cutF l (i + 2) (i + 2 + k), [], [], (i : Nat), (i + 2 + k : Nat)⟩) (by unfold cutF; rw [Nat.add_sub_cancel_left]) rfl rfl rfl (by simp only; omega))
end Go.Proofs.YtdhmpakhdhdebaaGreatDoor
namespace Go.Proofs.YtdhmpakhdhdebaaGreatDoor
open Go.Lib (hid)
open Go.RowKit
set_option maxRecDepth 100000
set_option maxHeartbeats 6400000 in
theorem refTag10_l (l : List UInt8) (i : Nat) (w : World) (hi : i < l.length) (hl : l.length <= 1048576) :
  Calls Tryz.prog 116 #[.string (B l), .int .i64 (i : Int)] w fun e w' => TokRef e (atG l i) /\ Below w.heap.size w w' := by
 obtain ⟨W, hW⟩ : ∃ W, (w.alloc (.cells #[.int .i64 0, .string ⟨#[]⟩, .string ⟨#[]⟩, .string ⟨#[]⟩, .int .i64 0, .int .i64 0] 50)).alloc (.cells #[.int .i64 0, .int .i64 0] 64) = W := ⟨_, rfl⟩
 have HB0 : Hid (Below w.heap.size w W) := hid (by rw [<- hW]; exact ((Below.refl _ _).alloc (Nat.le_refl _) _).alloc (by simp) _)
 have HK : Hid (TkAt W w.heap.size) := hid (by rw [<- hW]; exact tkr_new w)
 have k0 : (0 : Int) <= (i : Int) := by omega
 have k1 : (i : Int) <= (l.length : Int) := by omega
 obtain ⟨a0, a1, a2, a3, a4, a5, p0, p1, p2, p3, p4, p5, d0, d1, e0, e1, hlt⟩ := HK.out
 have hlt0 := Nat.lt_of_succ_lt hlt
 have WF : IntKind.i64.wrap ((i : Int) + 1) = (i : Int) + 1 := IntWalk.i64_in _ (by omega)
 obtain ⟨m, hm⟩ : ∃ m, tagE l (i + 1) = m := ⟨_, rfl⟩
 have hmb := tagE_bound l l.length (i + 1) (by omega) (by omega)
 rw [hm] at hmb
 have HM := hid hm
 clear hm
 go_enter Tryz.func116, Tryz.ntmps116
 go_upto_block 0 with fail
 go_cut [6] from 12 (fun x6 wx => x6 = .int .i64 (m : Int) /\ wx = W)
 case first =>
  go_wp2_with fail
  go_loopw [6] (fun z wr => ∃ j : Nat, z = .int .i64 (j : Int) /\ i + 1 <= j /\ j <= l.length /\ Hid (tagE l j = m) /\ wr = W) (fun z _ => l.length - (intOf z).toNat)
  case atStart => exact ⟨i + 1, by go_num, by omega, by omega, HM, rfl⟩
  case round =>
   obtain ⟨j, rfl, hij, hj, HE, rfl⟩ := hrel
   have j0 : (0 : Int) <= (j : Int) := by omega
   have WJ : IntKind.i64.wrap ((j : Int) + 1) = (j : Int) + 1 := IntWalk.i64_in _ (by omega)
   by_cases hlt2 : j < l.length
   ·have c1 : decide ((j : Int) < (l.length : Int)) = true := decide_eq_true (by omega)
    have c2 : decide (j < l.length) = true := decide_eq_true hlt2
    have c3 : (j : Int) < (l.length : Int) := by omega
    obtain ⟨c, hc⟩ : ∃ c, l[j] = c := ⟨_, rfl⟩
    have HC := hid hc
    have HT : Hid (tagC c = true ↔ (97 <= c.toNat /\ c.toNat <= 122) \/ (65 <= c.toNat /\ c.toNat <= 90) \/ (48 <= c.toNat /\ c.toNat <= 57) \/ c.toNat = 45) := hid (by
     unfold tagC alphaC digC
     simp only [Bool.or_eq_true, Bool.and_eq_true, decide_eq_true_eq, beq_iff_eq]
     have h45 : c = 45 ↔ c.toNat = 45 := ⟨fun e => by rw [e]; rfl, fun e => UInt8.toNat_inj.1 e⟩
     rw [h45]
     omega)
    have HN : Hid ((tagC c = true -> tagE l (j + 1) = m) /\ (tagC c = false -> j = m)) := hid ⟨fun h => by rw [<- HE.out, tagE_more hlt2 (by rw [hc]; exact h)], fun h => by rw [<- HE.out, tagE_here hlt2 (by rw [hc]; exact h)]⟩
    have R : (97 <= c.toNat /\ c.toNat <= 122) \/ (122 < c.toNat) \/ (91 <= c.toNat /\ c.toNat <= 96) \/ (65 <= c.toNat /\ c.toNat <= 90) \/ (58 <= c.toNat /\ c.toNat <= 64) \/ (48 <= c.toNat /\ c.toNat <= 57) \/ c.toNat = 45 \/ (c.toNat < 48 /\ c.toNat ≠ 45) := by omega
    clear HE
    rcases R with r | r | r | r | r | r | r | r
    ·have z97 : decide ((97 : Int) <= (c.toNat : Int)) = true := decide_eq_true (by omega)
     have z122 : decide ((c.toNat : Int) <= 122) = true := decide_eq_true (by omega)
     have HN2 := hid (HN.out.1 (HT.out.2 (by omega)))
     clear HN HT r
     go_wp2_with fail
     go_roundw
     case rel => exact ⟨j + 1, by go_num, by omega, by omega, HN2, by first | rfl | trivial⟩
     case measure => simp [intOf]; omega
    ·have z97 : decide ((97 : Int) <= (c.toNat : Int)) = true := decide_eq_true (by omega)
     have z122 : decide ((c.toNat : Int) <= 122) = false := decide_eq_false (by omega)
     have z65 : decide ((65 : Int) <= (c.toNat : Int)) = true := decide_eq_true (by omega)
     have z90 : decide ((c.toNat : Int) <= 90) = false := decide_eq_false (by omega)
     have z48 : decide ((48 : Int) <= (c.toNat : Int)) = true := decide_eq_true (by omega)
     have z57 : decide ((c.toNat : Int) <= 57) = false := decide_eq_false (by omega)
     have z45 : ((c.toNat : Int) == 45) = false := beq_eq_false_iff_ne.2 (by omega)
     have HN2 := hid (HN.out.2 (Bool.eq_false_iff.2 (fun h => by have := HT.out.1 h; omega)))
     clear HN HT r
     go_wp2_with fail
     go_meet
     exact ⟨by rw [HN2.out], by first | rfl | trivial⟩
    ·have z97 : decide ((97 : Int) <= (c.toNat : Int)) = false := decide_eq_false (by omega)
     have z65 : decide ((65 : Int) <= (c.toNat : Int)) = true := decide_eq_true (by omega)
     have z90 : decide ((c.toNat : Int) <= 90) = false := decide_eq_false (by omega)
     have z48 : decide ((48 : Int) <= (c.toNat : Int)) = true := decide_eq_true (by omega)
     have z57 : decide ((c.toNat : Int) <= 57) = false := decide_eq_false (by omega)
     have z45 : ((c.toNat : Int) == 45) = false := beq_eq_false_iff_ne.2 (by omega)
     have HN2 := hid (HN.out.2 (Bool.eq_false_iff.2 (fun h => by have := HT.out.1 h; omega)))
     clear HN HT r
     go_wp2_with fail
     go_meet
     exact ⟨by rw [HN2.out], by first | rfl | trivial⟩
    ·have z97 : decide ((97 : Int) <= (c.toNat : Int)) = false := decide_eq_false (by omega)
     have z65 : decide ((65 : Int) <= (c.toNat : Int)) = true := decide_eq_true (by omega)
     have z90 : decide ((c.toNat : Int) <= 90) = true := decide_eq_true (by omega)
     have HN2 := hid (HN.out.1 (HT.out.2 (by omega)))
     clear HN HT r
     go_wp2_with fail
     go_roundw
     case rel => exact ⟨j + 1, by go_num, by omega, by omega, HN2, by first | rfl | trivial⟩
     case measure => simp [intOf]; omega
    ·have z97 : decide ((97 : Int) <= (c.toNat : Int)) = false := decide_eq_false (by omega)
     have z65 : decide ((65 : Int) <= (c.toNat : Int)) = false := decide_eq_false (by omega)
     have z48 : decide ((48 : Int) <= (c.toNat : Int)) = true := decide_eq_true (by omega)
     have z57 : decide ((c.toNat : Int) <= 57) = false := decide_eq_false (by omega)
     have z45 : ((c.toNat : Int) == 45) = false := beq_eq_false_iff_ne.2 (by omega)
     have HN2 := hid (HN.out.2 (Bool.eq_false_iff.2 (fun h => by have := HT.out.1 h; omega)))
     clear HN HT r
     go_wp2_with fail
     go_meet
     exact ⟨by rw [HN2.out], by first | rfl | trivial⟩
    ·have z97 : decide ((97 : Int) <= (c.toNat : Int)) = false := decide_eq_false (by omega)
     have z65 : decide ((65 : Int) <= (c.toNat : Int)) = false := decide_eq_false (by omega)
     have z48 : decide ((48 : Int) <= (c.toNat : Int)) = true := decide_eq_true (by omega)
     have z57 : decide ((c.toNat : Int) <= 57) = true := decide_eq_true (by omega)
     have HN2 := hid (HN.out.1 (HT.out.2 (by omega)))
     clear HN HT r
     go_wp2_with fail
     go_roundw
     case rel => exact ⟨j + 1, by go_num, by omega, by omega, HN2, by first | rfl | trivial⟩
     case measure => simp [intOf]; omega
    ·have z97 : decide ((97 : Int) <= (c.toNat : Int)) = false := decide_eq_false (by omega)
     have z65 : decide ((65 : Int) <= (c.toNat : Int)) = false := decide_eq_false (by omega)
     have z48 : decide ((48 : Int) <= (c.toNat : Int)) = false := decide_eq_false (by omega)
     have z45 : ((c.toNat : Int) == 45) = true := beq_iff_eq.2 (by omega)
     have HN2 := hid (HN.out.1 (HT.out.2 (by omega)))
     clear HN HT r
     go_wp2_with fail
     go_roundw
     case rel => exact ⟨j + 1, by go_num, by omega, by omega, HN2, by first | rfl | trivial⟩
     case measure => simp [intOf]; omega
    ·have z97 : decide ((97 : Int) <= (c.toNat : Int)) = false := decide_eq_false (by omega)
     have z65 : decide ((65 : Int) <= (c.toNat : Int)) = false := decide_eq_false (by omega)
     have z48 : decide ((48 : Int) <= (c.toNat : Int)) = false := decide_eq_false (by omega)
     have z45 : ((c.toNat : Int) == 45) = false := beq_eq_false_iff_ne.2 (by omega)
     have HN2 := hid (HN.out.2 (Bool.eq_false_iff.2 (fun h => by have := HT.out.1 h; omega)))
     clear HN HT r
     go_wp2_with fail
     go_meet
     exact ⟨by rw [HN2.out], by first | rfl | trivial⟩
   ·have c1 : decide ((j : Int) < (l.length : Int)) = false := decide_eq_false (by omega)
    have c2 : decide (j < l.length) = false := decide_eq_false hlt2
    have HN : Hid (j = m) := hid (by rw [<- HE.out, tagE_end (by omega)])
    clear HE
    go_wp2_with fail
    go_meet
    exact ⟨by rw [HN.out], rfl⟩
 case rest =>
  obtain ⟨rfl, rfl⟩ := hcut
  obtain ⟨run, hrun⟩ : ∃ run, cutF l (i + 1) m = run := ⟨_, rfl⟩
  have hcut2 : List.take (m - (i + 1)) (List.drop (i + 1) l) = run := hrun
  have hrl : run.length <= 1048576 := by rw [<- hrun]; have := cutF_len l (i + 1) m; omega
  have HA : Hid (atG l i = if run = prefixW \/ run = baseW then .inl ⟨7, 64 :: run, [], [], (i : Nat), (m : Nat)⟩ else match tagF run with
   | none => .inr (i + 1, 61)
   | some _ => .inl ⟨5, lowL run, [], [], (i : Nat), (m : Nat)⟩) := hid (by unfold atG; rw [HM.out, hrun]; rfl)
  have m0 : (0 : Int) <= (i : Int) + 1 := by omega
  have m1 : (i : Int) + 1 <= (m : Int) := by omega
  have m2 : (m : Int) <= (l.length : Int) := by omega
  clear hrun
  by_cases h1 : run = prefixW
  ·go_wp2_with fail
   exact tokr_done (V := wc) rfl HK.out HB0.out rfl rfl (by rw [HA.out, if_pos (.inl h1)]; exact tokRef_of (t := ⟨7, 64 :: run, [], [], (i : Nat), (m : Nat)⟩) (by rw [h1]; exact B_append [64] prefixW) rfl rfl rfl rfl)
  have s1 : (run == [112, 114, 101, 102, 105, 120]) = false := beq_eq_false_iff_ne.2 h1
  by_cases h2 : run = baseW
  ·have s2 : run = [98, 97, 115, 101] := h2
   have HA2 : Hid (atG l i = .inl ⟨7, 64 :: run, [], [], (i : Nat), (m : Nat)⟩) := hid (by rw [HA.out, if_pos (.inr h2)])
   have HRU := hid h2
   clear h1 h2 HA
   go_wp2_with fail
   exact tokr_done (V := wc) rfl HK.out HB0.out rfl rfl (by rw [HA2.out]; exact tokRef_of (t := ⟨7, 64 :: run, [], [], (i : Nat), (m : Nat)⟩) (by rw [HRU.out]; rfl) rfl rfl rfl rfl)
  have s2 : (run == [98, 97, 115, 101]) = false := beq_eq_false_iff_ne.2 h2
  have HA2 : Hid (atG l i = match tagF run with
   | none => .inr (i + 1, 61)
   | some _ => .inl ⟨5, lowL run, [], [], (i : Nat), (m : Nat)⟩) := hid (by rw [HA.out, if_neg (by rintro (h | h); exact h1 h; exact h2 h)])
  clear HA h1 h2
  obtain ⟨y, hy⟩ : ∃ y, tagF run = y := ⟨_, rfl⟩
  rw [hy] at HA2
  rcases y with _ | tg
  ·have TG := hid (fun (u : World) => refTag_bad hy u (by omega))
   clear hy
   go_wp2_with (go_at_call 166; (with_reducible refine (TG.out _).mono ?_); rintro e w2 ⟨rfl, hb⟩; replace HK := hid (HK.out.below hb); replace HB0 := hid (HB0.out.trans (hb.mono HB0.out.size)); clear a0 a1 a2 a3 a4 a5 p0 p1 p2 p3 p4 p5 d0 d1 e0 e1 hlt hlt0 hb; obtain ⟨a0, a1, a2, a3, a4, a5, p0, p1, p2, p3, p4, p5, d0, d1, e0, e1, hlt⟩ := HK.out; have hlt0 := Nat.lt_of_succ_lt hlt)
   exact tokr_done_a (V := w2) rfl HK.out HB0.out rfl rfl (by rw [HA2.out]; rfl)
  ·have TG := hid (fun (u : World) => refTag_ok hy u (by omega))
   have LW := hid (fun (u : World) => refLower_l run u (by unfold maxLen; omega))
   clear hy
   go_upto_region 10 with (go_at_call 166; (with_reducible refine (TG.out _).mono ?_); rintro e w2 ⟨⟨v1, v2, v3, v4, v5, r5, z5, v6, r6, z6, v7, rfl⟩, hb⟩; replace HK := hid (HK.out.below hb); replace HB0 := hid (HB0.out.trans (hb.mono HB0.out.size)); clear a0 a1 a2 a3 a4 a5 p0 p1 p2 p3 p4 p5 d0 d1 e0 e1 hlt hlt0 hb; obtain ⟨a0, a1, a2, a3, a4, a5, p0, p1, p2, p3, p4, p5, d0, d1, e0, e1, hlt⟩ := HK.out; have hlt0 := Nat.lt_of_succ_lt hlt)
   have hb : Below w2.heap.size w2 (w2.alloc (.cells #[.string v1, .string v2, .string v3, .string v4, .slice v5 r5 z5, .slice v6 r6 z6, .string v7] 192)) := (Below.refl _ _).alloc (Nat.le_refl _) _
   replace HK := hid (HK.out.below hb); replace HB0 := hid (HB0.out.trans (hb.mono HB0.out.size)); clear a0 a1 a2 a3 a4 a5 p0 p1 p2 p3 p4 p5 d0 d1 e0 e1 hlt hlt0 hb; obtain ⟨a0, a1, a2, a3, a4, a5, p0, p1, p2, p3, p4, p5, d0, d1, e0, e1, hlt⟩ := HK.out; have hlt0 := Nat.lt_of_succ_lt hlt
   generalize hV : w2.alloc (.cells #[.string v1, .string v2, .string v3, .string v4, .slice v5 r5 z5, .slice v6 r6 z6, .string v7] 192) = V at *
   clear hV
   go_wp2_with (go_at_call 167; (with_reducible refine (LW.out _).mono ?_); rintro e w3 ⟨rfl, hb⟩; replace HK := hid (HK.out.below hb); replace HB0 := hid (HB0.out.trans (hb.mono HB0.out.size)); clear a0 a1 a2 a3 a4 a5 p0 p1 p2 p3 p4 p5 d0 d1 e0 e1 hlt hlt0 hb; obtain ⟨a0, a1, a2, a3, a4, a5, p0, p1, p2, p3, p4, p5, d0, d1, e0, e1, hlt⟩ := HK.out; have hlt0 := Nat.lt_of_succ_lt hlt)
   exact tokr_done (V := w3) rfl HK.out HB0.out rfl rfl (by rw [HA2.out]; exact tokRef_of (t := ⟨5, lowL run, [], [], (i : Nat), (m : Nat)⟩) rfl rfl rfl rfl rfl)
end Go.Proofs.YtdhmpakhdhdebaaGreatDoor
