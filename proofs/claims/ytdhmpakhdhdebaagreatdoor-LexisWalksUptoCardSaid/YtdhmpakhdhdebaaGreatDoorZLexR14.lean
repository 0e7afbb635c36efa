/-
  tesseraref10.New and Lexer.Next: contracts. By an AI agent.
-/
import Derived.Test.YtdhmpakhdhdebaaGreatDoorZLexR10
import Derived.Test.YtdhmpakhdhdebaaGreatDoorZLexW17
namespace Go.Proofs.YtdhmpakhdhdebaaGreatDoor
open Go.Lib (hid)
open Go.RowKit
set_option maxRecDepth 100000
def RLex (w : World) (b : Nat) (l : List UInt8) (i : Nat) (less : Bool) (p n : Int) : Prop := RowAt w b [.string (B l), .int .i64 (i : Int), .bool less, .int .i64 p, .int .i64 n]
theorem row5 {w : World} {g : Nat} {a b c d e : Value} (h : RowAt w g [a, b, c, d, e]) : (w.cell? ⟨g, 0, none⟩ = some a /\ w.cell? ⟨g, 1, none⟩ = some b /\ w.cell? ⟨g, 2, none⟩ = some c /\ w.cell? ⟨g, 3, none⟩ = some d /\ w.cell? ⟨g, 4, none⟩ = some e) /\ (w.frozen? ⟨g, 1, none⟩ = false /\ w.frozen? ⟨g, 3, none⟩ = false /\ w.frozen? ⟨g, 4, none⟩ = false) /\ g < w.heap.size :=
 ⟨⟨h.cell (j := 0) (by simp), h.cell (j := 1) (by simp), h.cell (j := 2) (by simp), h.cell (j := 3) (by simp), h.cell (j := 4) (by simp)⟩, ⟨h.free (j := 1) (by simp), h.free (j := 3) (by simp), h.free (j := 4) (by simp)⟩, h.inside⟩
theorem refNew10_l (l : List UInt8) (w : World) (hl : l.length <= 4194304) :
  Calls Tryz.prog 24 #[.string (B l)] w fun e w' => ∃ b, e = .returned (.pointer (some ⟨b, 0, none⟩)) /\ w.heap.size <= b /\ RLex w' b (headL l) 0 (lessB l) 0 0 /\ Below w.heap.size w w' := by
 have UC := hid (fun u => refUtfCheck_l l u (by omega))
 have y1 : decide ((67108864 : Int) < (l.length : Int)) = false := decide_eq_false (by omega)
 have hut := utfF_ge l l.length 0 (by omega)
 have HE : Hid (headL l = if utfF l 0 = -1 then l else l.take (utfF l 0).toNat) := hid rfl
 have HF : Hid (lessB l = !decide (utfF l 0 = -1)) := hid rfl
 generalize utfF l 0 = z at *
 go_enter Tryz.func24, Tryz.ntmps24
 by_cases hz : z = -1
 ·have e1 : decide ((0 : Int) <= z) = false := decide_eq_false (by omega)
  have hh : headL l = l := by rw [HE.out, if_pos hz]
  have hf : lessB l = false := by rw [HF.out, decide_eq_true hz]; rfl
  clear hz hut HE HF
  go_wp2_with (go_at_call 41; (with_reducible refine (UC.out _).mono ?_); rintro e w1 ⟨rfl, hb⟩)
  go_ret
  exact ⟨_, rfl, hb.size, by rw [hh, hf]; exact rowAt_of_heap (heap_alloc_new w1 _), hb.alloc hb.size _⟩
 ·have e1 : decide ((0 : Int) <= z) = true := decide_eq_true (by omega)
  obtain ⟨n, rfl⟩ : ∃ n : Nat, z = (n : Int) := ⟨z.toNat, by omega⟩
  have k1 : (n : Int) <= (l.length : Int) := by omega
  have k0 : (0 : Int) <= (n : Int) := by omega
  have hh : headL l = l.take n := by rw [HE.out, if_neg hz]; rfl
  have hf : lessB l = true := by rw [HF.out, decide_eq_false hz]; rfl
  clear hz hut HE HF
  go_wp2_with (go_at_call 41; (with_reducible refine (UC.out _).mono ?_); rintro e w1 ⟨rfl, hb⟩)
  go_ret
  exact ⟨_, rfl, hb.size, by rw [hh, hf]; exact rowAt_of_heap (heap_alloc_new w1 _), hb.alloc hb.size _⟩
def StepR (w : World) (b : Nat) (l : List UInt8) (less : Bool) (i : Nat) (r : TokR) (e : Ending) (w' : World) : Prop := match r with
 | .inl t => e = .returned (.tuple #[tokV t.kind (B t.text) (B t.loc) (B t.typ) t.at_ t.fin, .agg #[.int .i64 0, .int .i64 0]]) /\ RLex w' b l t.fin.toNat less 0 0 /\ w.grownBy w' (some b)
 | .inr (p, n) => e = .returned (.tuple #[tokV 0 ⟨#[]⟩ ⟨#[]⟩ ⟨#[]⟩ 0 0, .agg #[.int .i64 (p : Int), .int .i64 n]]) /\ RLex w' b l i less (p : Int) n /\ w.grownBy w' (some b)
theorem results_t2 (fn : Func) (hr : fn.results = #[.cell 2 50, .cell 3 64]) (tm : Array Value) (u : World) (g f : Nat) (k : Int) (x y z : ByteArray) (a e p n : Int) (h2 : tm.getD 2 undef = .pointer (some ⟨g, 0, none⟩)) (h3 : tm.getD 3 undef = .pointer (some ⟨f, 0, none⟩))
  (c0 : u.cell? ⟨g, 0, none⟩ = some (.int .i64 k)) (c1 : u.cell? ⟨g, 1, none⟩ = some (.string x)) (c2 : u.cell? ⟨g, 2, none⟩ = some (.string y)) (c3 : u.cell? ⟨g, 3, none⟩ = some (.string z)) (c4 : u.cell? ⟨g, 4, none⟩ = some (.int .i64 a)) (c5 : u.cell? ⟨g, 5, none⟩ = some (.int .i64 e))
  (d0 : u.cell? ⟨f, 0, none⟩ = some (.int .i64 p)) (d1 : u.cell? ⟨f, 1, none⟩ = some (.int .i64 n)) :
  (results fn tm).run Tryz.prog u = .ok (.tuple #[tokV k x y z a e, .agg #[.int .i64 p, .int .i64 n]]) u := by
 rw [Array.getD_eq_getD_getElem?] at h2 h3
 simp [results, hr, h2, h3, go_sem, c0, c1, c2, c3, c4, c5, d0, d1, tokV]
theorem putTk_err {W : World} {g : Nat} (h : TkAt W g) (k : Int) (x y z : ByteArray) (a f p n : Int) : RowAt (putTk W g k x y z a f p n) (g + 1) [.int .i64 p, .int .i64 n] := by
 have R : RowAt W (g + 1) [.int .i64 0, .int .i64 0] := fun j hj => by
  have hj2 : j = 0 \/ j = 1 := by simp at hj; omega
  rcases hj2 with rfl | rfl
  ·exact ⟨h.d0, h.e0⟩
  ·exact ⟨h.d1, h.e1⟩
 exact ((six_other R (by omega) k x y z a f).set (j := 0) (by simp) (.int .i64 p)).set (j := 1) (by simp) (.int .i64 n)
theorem rnext_done {fn : Func} (hr : fn.results = #[.cell 2 50, .cell 3 64]) {w V : World} {b g : Nat} {vs : List Value} {tm : Array Value} {k a e p n : Int} {x y z : ByteArray} (hK : TkAt V g) (hg : w.heap.size <= g) (hX : RowAt V b vs) (h0 : ¬ b = g) (h1 : ¬ b = g + 1) (hG : w.grownBy V (some b))
  (h2 : tm.getD 2 undef = .pointer (some ⟨g, 0, none⟩)) (h3 : tm.getD 3 undef = .pointer (some ⟨g + 1, 0, none⟩)) :
  bodyPost Tryz.prog fn (fun e' w' => e' = .returned (.tuple #[tokV k x y z a e, .agg #[.int .i64 p, .int .i64 n]]) /\ RowAt w' b vs /\ w.grownBy w' (some b)) .ret { tmps := tm, defers := [] } (putTk V g k x y z a e p n) := by
 have R1 := putTk_tok hK k x y z a e p n
 have R2 := putTk_err hK k x y z a e p n
 refine bodyPost_ret (results_t2 fn hr tm _ g (g + 1) k x y z a e p n h2 h3 (R1.cell (j := 0) (by simp)) (R1.cell (j := 1) (by simp)) (R1.cell (j := 2) (by simp)) (R1.cell (j := 3) (by simp)) (R1.cell (j := 4) (by simp)) (R1.cell (j := 5) (by simp)) (R2.cell (j := 0) (by simp)) (R2.cell (j := 1) (by simp))) rfl ?_
 exact ⟨rfl, putTk_row hX h0 h1 k x y z a e p n, putTk_grown hG hg k x y z a e p n⟩
theorem RowAt.set5 {w : World} {g : Nat} {a b c d e : Value} (h : RowAt w g [a, b, c, d, e]) (x y : Value) : RowAt ((w.setCell ⟨g, 3, none⟩ x).setCell ⟨g, 4, none⟩ y) g [a, b, c, x, y] := by
 have := (h.set (j := 3) (by simp) x).set (j := 4) (by simp) y
 simpa using this
theorem RowAt.at5 {w : World} {g : Nat} {a b c d e : Value} (h : RowAt w g [a, b, c, d, e]) (x : Value) : RowAt (w.setCell ⟨g, 1, none⟩ x) g [a, x, c, d, e] := by
 have := h.set (j := 1) (by simp) x
 simpa using this
end Go.Proofs.YtdhmpakhdhdebaaGreatDoor
namespace Go.Proofs.YtdhmpakhdhdebaaGreatDoor
open Go.Lib (hid)
open Go.RowKit
set_option maxRecDepth 100000
theorem grown_own {w W : World} {b : Nat} (h : w.grownBy W (some b)) (o : Nat) (v : Value) : w.grownBy (W.setCell ⟨b, o, none⟩ v) (some b) := grownR_trans h (grownBy_set W b o v)
structure NxAt (w u : World) (b : Nat) (l : List UInt8) (i : Nat) (less : Bool) : Prop where
 k : TkAt u w.heap.size
 x : RLex u b l i less 0 0
 g : w.grownBy u (some b)
theorem row_drew {u : World} {g : Nat} {vs : List Value} (h : RowAt u g vs) : RowAt u.drew g vs := h
theorem rnext_drew {fn : Func} (hr : fn.results = #[.cell 2 50, .cell 3 64]) {w V : World} {b g : Nat} {vs : List Value} {tm : Array Value} {k a e p n : Int} {x y z : ByteArray} (hK : TkAt V g) (hg : w.heap.size <= g) (hX : RowAt V b vs) (h0 : ¬ b = g) (h1 : ¬ b = g + 1) (hG : w.grownBy V (some b))
  (h2 : tm.getD 2 undef = .pointer (some ⟨g, 0, none⟩)) (h3 : tm.getD 3 undef = .pointer (some ⟨g + 1, 0, none⟩)) :
  bodyPost Tryz.prog fn (fun e' w' => e' = .returned (.tuple #[tokV k x y z a e, .agg #[.int .i64 p, .int .i64 n]]) /\ RowAt w' b vs /\ w.grownBy w' (some b)) .ret { tmps := tm, defers := [] } (putTk V g k x y z a e p n).drew := by
 have R1 := row_drew (putTk_tok hK k x y z a e p n)
 have R2 := row_drew (putTk_err hK k x y z a e p n)
 refine bodyPost_ret (results_t2 fn hr tm _ g (g + 1) k x y z a e p n h2 h3 (R1.cell (j := 0) (by simp)) (R1.cell (j := 1) (by simp)) (R1.cell (j := 2) (by simp)) (R1.cell (j := 3) (by simp)) (R1.cell (j := 4) (by simp)) (R1.cell (j := 5) (by simp)) (R2.cell (j := 0) (by simp)) (R2.cell (j := 1) (by simp))) rfl ?_
 exact ⟨rfl, row_drew (putTk_row hX h0 h1 k x y z a e p n), grown_drew1 (putTk_grown hG hg k x y z a e p n)⟩
theorem NxAt.below {w u v : World} {b : Nat} {l : List UInt8} {i : Nat} {less : Bool} (h : NxAt w u b l i less) (hb : Below u.heap.size u v) : NxAt w v b l i less := ⟨h.k.below hb, RowAt.below h.x hb h.x.inside, grownL_below h.g hb⟩
theorem NxAt.same {w u : World} {b : Nat} {l : List UInt8} {i : Nat} {less : Bool} (h : NxAt w u b l i less) : NxAt w u.drew b l i less := ⟨h.k.same, h.x, grown_drew1 h.g⟩
theorem NxAt.drewN {w u : World} {b : Nat} {l : List UInt8} {i : Nat} {less : Bool} (h : NxAt w u b l i less) (n : Nat) : NxAt w (u.drewN n) b l i less := ⟨h.k.drewN n, rowN h.x n, grown_drewN h.g n⟩
theorem NxAt.set {w u : World} {b g : Nat} {l : List UInt8} {i : Nat} {less : Bool} (h : NxAt w u b l i less) (hg : w.heap.size + 2 <= g) (hb : b < w.heap.size) (o : Nat) (v : Value) : NxAt w (u.setCell ⟨g, o, none⟩ v) b l i less := ⟨h.k.other (by omega) (by omega) o v, RowAt.other h.x (by omega) v, grown_set h.g (by omega) _⟩
theorem NxAt.six {w u : World} {b g : Nat} {l : List UInt8} {i : Nat} {less : Bool} (h : NxAt w u b l i less) (hg : w.heap.size + 2 <= g) (hb : b < w.heap.size) (k : Int) (x y z : ByteArray) (a f : Int) : NxAt w (six u g k x y z a f) b l i less := (((((h.set hg hb _ _).set hg hb _ _).set hg hb _ _).set hg hb _ _).set hg hb _ _).set hg hb _ _
theorem nx_cells {w u : World} {b : Nat} {l : List UInt8} {i : Nat} {less : Bool} (h : NxAt w u b l i less) : u.cell? ⟨b, 0, none⟩ = some (.string (B l)) /\ u.cell? ⟨b, 1, none⟩ = some (.int .i64 (i : Int)) := ⟨(row5 h.x).1.1, (row5 h.x).1.2.1⟩
theorem size_six (u : World) (g : Nat) (k : Int) (x y z : ByteArray) (a f : Int) : (six u g k x y z a f).heap.size = u.heap.size := by simp [six]
theorem two_of {u : World} {g : Nat} {c d : Value} (h : RowAt u g [c, d]) : u.cell? ⟨g, 0, none⟩ = some c /\ u.cell? ⟨g, 1, none⟩ = some d /\ u.frozen? ⟨g, 0, none⟩ = false /\ u.frozen? ⟨g, 1, none⟩ = false := ⟨h.cell (j := 0) (by simp), h.cell (j := 1) (by simp), h.free (j := 0) (by simp), h.free (j := 1) (by simp)⟩
theorem two_row {u : World} {g : Nat} {c d : Value} (h : RowAt u g [c, d]) (p n : Int) : RowAt ((u.setCell ⟨g, 0, none⟩ (.int .i64 p)).setCell ⟨g, 1, none⟩ (.int .i64 n)) g [.int .i64 p, .int .i64 n] := by
 have := (h.set (j := 0) (by simp) (.int .i64 p)).set (j := 1) (by simp) (.int .i64 n)
 simpa using this
set_option maxHeartbeats 6400000 in
theorem refStep10_l (l : List UInt8) (less : Bool) (i b : Nat) (w : World) (h : RLex w b l i less 0 0) (hi : i <= l.length) (hl : l.length <= 1048576) :
  Calls Tryz.prog 26 #[.pointer (some ⟨b, 0, none⟩)] w (StepR w b l less i (stepG l less i)) := by
 obtain ⟨W, hW⟩ : ∃ W, (w.alloc (.cells #[.int .i64 0, .string ⟨#[]⟩, .string ⟨#[]⟩, .string ⟨#[]⟩, .int .i64 0, .int .i64 0] 50)).alloc (.cells #[.int .i64 0, .int .i64 0] 64) = W := ⟨_, rfl⟩
 have hB0 : Below w.heap.size w W := by rw [<- hW]; exact ((Below.refl _ _).alloc (Nat.le_refl _) _).alloc (by simp) _
 have HN : Hid (NxAt w W b l i less) := hid ⟨by rw [<- hW]; exact tkr_new w, RowAt.below h hB0 h.inside, below_grown hB0 _⟩
 have hbw := h.inside
 have hn0 : ¬ b = w.heap.size := by omega
 have hn1 : ¬ b = w.heap.size + 1 := by omega
 have k0 : (0 : Int) <= (i : Int) := by omega
 have hsz : w.heap.size + 2 = W.heap.size := by rw [<- hW]; simp
 have HSZ := hid hsz
 have hlt0 : w.heap.size < W.heap.size := by omega
 have hlt : w.heap.size + 1 < W.heap.size := by omega
 obtain ⟨⟨x0, x1, x2, x3, x4⟩, ⟨f1, f3, f4⟩, hbl⟩ := row5 HN.out.x
 clear h hB0
 have N0 := hid (fun (u : World) => refNext10_l l i u hi hl)
 go_enter Tryz.func26, Tryz.ntmps26
 go_upto_region 3 with fail
 go_cut [4, 5] from 17 to 28 (fun x4 x5 wx => ∃ (g4 g5 : Nat) (k : Int) (x y z : ByteArray) (a f p n : Int), x4 = .pointer (some ⟨g4, 0, none⟩) /\ x5 = .pointer (some ⟨g5, 0, none⟩) /\ Hid (TokRef (.returned (.tuple #[tokV k x y z a f, .agg #[.int .i64 p, .int .i64 n]])) (nextG l i)) /\ W.heap.size <= g4 /\ W.heap.size <= g5 /\ g4 ≠ g5 /\ Hid (RowAt wx g4 [.int .i64 k, .string x, .string y, .string z, .int .i64 a, .int .i64 f]) /\ Hid (RowAt wx g5 [.int .i64 p, .int .i64 n]) /\ Hid (NxAt w wx b l i less))
 case first =>
  clear x0 x1 x2 x3 x4 f1 f3 f4 hbl hlt hlt0 hsz
  refine wp_region_held (S := fun u => u.cell? ⟨b, 0, none⟩ = some (.string (B l)) /\ u.cell? ⟨b, 1, none⟩ = some (.int .i64 (i : Int))) (by kernel_rfl) ?_
  change wpAnyH _ _ _ _ _ _ _ _ (World.drew _)
  have HS : Hid (W.drew.cell? ⟨b, 0, none⟩ = some (.string (B l)) /\ W.drew.cell? ⟨b, 1, none⟩ = some (.int .i64 (i : Int))) := hid (nx_cells (HN.out.same))
  refine wpAnyH_take (i := 0) (v := ?_) rfl (by kernel_rfl) (by kernel_rfl) (by kernel_rfl) (fun _ _ _ h => h) (Or.inl ⟨by rfl, ?_⟩) HS.out ?_
  rotate_left
  ·intro w hSw; obtain ⟨h1, h2⟩ := hSw; go_simp; try with_reducible rfl
  simp only [Act.put, List.setIfInBounds_toArray]
  refine wpAnyH_take (i := 1) (v := ?_) rfl (by kernel_rfl) (by kernel_rfl) (by kernel_rfl) (fun _ _ _ h => h) (Or.inl ⟨by rfl, ?_⟩) HS.out ?_
  rotate_left
  ·intro w hSw; obtain ⟨h1, h2⟩ := hSw; go_simp; try with_reducible rfl
  simp only [Act.put]
  refine wpAnyH_take (i := 2) (v := ?_) rfl (by kernel_rfl) (by kernel_rfl) (by kernel_rfl) (fun _ _ _ h => h) (Or.inl ⟨by rfl, ?_⟩) HS.out ?_
  rotate_left
  ·intro w hSw; obtain ⟨h1, h2⟩ := hSw; go_simp; try with_reducible rfl
  simp only [Act.put]
  refine wpAnyH_take (i := 3) (v := ?_) rfl (by kernel_rfl) (by kernel_rfl) (by kernel_rfl) (fun _ _ _ h => h) (Or.inl ⟨by rfl, ?_⟩) HS.out ?_
  rotate_left
  ·intro w hSw; obtain ⟨h1, h2⟩ := hSw; go_simp; try with_reducible rfl
  simp only [Act.put]
  refine wpAnyH_take (i := 4) (v := ?_) rfl (by kernel_rfl) (by kernel_rfl) (by kernel_rfl) (fun _ _ _ h => h) (Or.inl ⟨by rfl, ?_⟩) HS.out ?_
  rotate_left
  ·intro w hSw; obtain ⟨h1, h2⟩ := hSw; go_simp; try with_reducible rfl
  simp only [Act.put]
  refine wpAnyH_take (i := 5) (v := ?_) rfl (by kernel_rfl) (by kernel_rfl) (by kernel_rfl) (fun _ _ _ h => h) (Or.inl ⟨by rfl, ?_⟩) HS.out ?_
  rotate_left
  ·intro w hSw; obtain ⟨h1, h2⟩ := hSw; go_simp; try with_reducible rfl
  simp only [Act.put]
  refine wpAnyH_take (i := 6) (v := ?_) rfl (by kernel_rfl) (by kernel_rfl) (by kernel_rfl) (fun _ _ _ h => h) (Or.inl ⟨by rfl, ?_⟩) HS.out ?_
  rotate_left
  ·intro w hSw; obtain ⟨h1, h2⟩ := hSw; go_simp; try with_reducible rfl
  simp only [Act.put]
  refine wpAnyH_take (i := 7) (v := ?_) rfl (by kernel_rfl) (by kernel_rfl) (by kernel_rfl) (fun _ _ _ h => h) (Or.inl ⟨by rfl, ?_⟩) HS.out ?_
  rotate_left
  ·intro w hSw; obtain ⟨h1, h2⟩ := hSw; go_simp; try with_reducible rfl
  simp only [Act.put]
  generalize hF : wpAnyH _ _ _ _ _ = F
  have sABCST : ∀ (g4 : Nat) (g5 : Nat) (k : Int) (x y z : ByteArray) (a f p n : Int) (u : World), NxAt w u b l i less -> W.heap.size <= u.heap.size -> W.heap.size <= g4 -> RowAt u g4 [.int .i64 k, .string x, .string y, .string z, .int .i64 a, .int .i64 f] -> W.heap.size <= g5 -> RowAt u g5 [.int .i64 p, .int .i64 n] -> g4 ≠ g5 -> Hid (TokRef (.returned (.tuple #[tokV k x y z a f, .agg #[.int .i64 p, .int .i64 n]])) (nextG l i)) -> F 0 #[true, true, true, true, true, true, true, true, true, true, true, true, true, true, true, true] { tmps := #[.pointer (some ⟨b, 0, none⟩), undef, .pointer (some ⟨w.heap.size, 0, none⟩), .pointer (some ⟨w.heap.size + 1, 0, none⟩), .pointer (some ⟨g4, 0, none⟩), .pointer (some ⟨g5, 0, none⟩), .pointer (some ⟨b, 0, none⟩), .pointer (some ⟨b, 0, none⟩), .pointer (some ⟨b, 3, none⟩), .pointer (some ⟨b, 4, none⟩), .int .i64 0, .bool false, undef, undef, undef, undef, undef, .tuple #[.agg #[.int .i64 k, .string x, .string y, .string z, .int .i64 a, .int .i64 f], .agg #[.int .i64 p, .int .i64 n]], .pointer (some ⟨b, 0, none⟩), .pointer (some ⟨b, 0, none⟩), .pointer (some ⟨b, 0, none⟩), .string (B l), .pointer (some ⟨b, 0, none⟩), .pointer (some ⟨b, 0, none⟩), .pointer (some ⟨b, 1, none⟩), .int .i64 (i : Int), .tuple #[.agg #[.int .i64 k, .string x, .string y, .string z, .int .i64 a, .int .i64 f], .agg #[.int .i64 p, .int .i64 n]], .agg #[.int .i64 k, .string x, .string y, .string z, .int .i64 a, .int .i64 f], .agg #[.int .i64 p, .int .i64 n], undef, undef, undef, undef, undef, undef, undef, undef, undef, undef, undef, undef, undef, undef, undef, undef, undef, undef, undef, undef, undef, undef, undef, undef, undef, undef, undef, undef, undef, undef, undef, undef, undef, undef, undef, undef, undef, undef, undef, undef, undef, undef, undef, undef, undef, undef, undef, undef, undef, undef, undef], defers := [] } u := by
   intro g4 g5 k x y z a f p n u hN hU hA rA hB rB hne hT
   subst hF
   refine wpAnyH_done (by kernel_rfl) ?_ _
   go_wp2_with fail
   go_meet
   exact ⟨g4, g5, k, x, y, z, a, f, p, n, rfl, rfl, hT, hA, hB, hne, hid rA, hid rB, hid hN⟩
  have sABCS : ∀ (g4 : Nat) (g5 : Nat) (k : Int) (x y z : ByteArray) (a f p n : Int) (u : World), NxAt w u b l i less -> W.heap.size <= u.heap.size -> W.heap.size <= g4 -> RowAt u g4 [.int .i64 k, .string x, .string y, .string z, .int .i64 a, .int .i64 f] -> W.heap.size <= g5 -> RowAt u g5 [.int .i64 0, .int .i64 0] -> g4 ≠ g5 -> Hid (TokRef (.returned (.tuple #[tokV k x y z a f, .agg #[.int .i64 p, .int .i64 n]])) (nextG l i)) -> F 1 #[true, true, true, true, true, true, true, true, true, true, true, true, true, true, true, false] { tmps := #[.pointer (some ⟨b, 0, none⟩), undef, .pointer (some ⟨w.heap.size, 0, none⟩), .pointer (some ⟨w.heap.size + 1, 0, none⟩), .pointer (some ⟨g4, 0, none⟩), .pointer (some ⟨g5, 0, none⟩), .pointer (some ⟨b, 0, none⟩), .pointer (some ⟨b, 0, none⟩), .pointer (some ⟨b, 3, none⟩), .pointer (some ⟨b, 4, none⟩), .int .i64 0, .bool false, undef, undef, undef, undef, undef, .tuple #[.agg #[.int .i64 k, .string x, .string y, .string z, .int .i64 a, .int .i64 f], .agg #[.int .i64 p, .int .i64 n]], .pointer (some ⟨b, 0, none⟩), .pointer (some ⟨b, 0, none⟩), .pointer (some ⟨b, 0, none⟩), .string (B l), .pointer (some ⟨b, 0, none⟩), .pointer (some ⟨b, 0, none⟩), .pointer (some ⟨b, 1, none⟩), .int .i64 (i : Int), .tuple #[.agg #[.int .i64 k, .string x, .string y, .string z, .int .i64 a, .int .i64 f], .agg #[.int .i64 p, .int .i64 n]], .agg #[.int .i64 k, .string x, .string y, .string z, .int .i64 a, .int .i64 f], .agg #[.int .i64 p, .int .i64 n], undef, undef, undef, undef, undef, undef, undef, undef, undef, undef, undef, undef, undef, undef, undef, undef, undef, undef, undef, undef, undef, undef, undef, undef, undef, undef, undef, undef, undef, undef, undef, undef, undef, undef, undef, undef, undef, undef, undef, undef, undef, undef, undef, undef, undef, undef, undef, undef, undef, undef, undef], defers := [] } u := by
   intro g4 g5 k x y z a f p n u hN hU hA rA hB rB hne hT
   subst hF
   have HU := hid hU
   refine wpAnyH_ready (rs := [15]) (by kernel_rfl) (by simp) ?_
   refine AllReadyH.cons rfl (fun K hK => ?_) ?_
   ·obtain ⟨c0, c1, v0, v1⟩ := two_of rB
    go_simp
    exact hK.out _ _ (nx_cells ((hN.set (by have := HSZ.out; omega) hbw 0 (.int .i64 p)).set (by have := HSZ.out; omega) hbw 1 (.int .i64 n))) (fun _ => sABCST g4 g5 k x y z a f p n ((u.setCell ⟨g5, 0, none⟩ (.int .i64 p)).setCell ⟨g5, 1, none⟩ (.int .i64 n)) ((hN.set (by have := HSZ.out; omega) hbw 0 (.int .i64 p)).set (by have := HSZ.out; omega) hbw 1 (.int .i64 n)) (by simpa using hU) hA (RowAt.other (RowAt.other rA hne (.int .i64 p)) hne (.int .i64 n)) hB (two_row rB p n) hne hT)
   exact AllReadyH.nil
  have sABC : ∀ (g4 : Nat) (g5 : Nat) (k : Int) (x y z : ByteArray) (a f p n : Int) (u : World), NxAt w u b l i less -> W.heap.size <= u.heap.size -> W.heap.size <= g4 -> RowAt u g4 TokZ -> W.heap.size <= g5 -> RowAt u g5 [.int .i64 0, .int .i64 0] -> g4 ≠ g5 -> Hid (TokRef (.returned (.tuple #[tokV k x y z a f, .agg #[.int .i64 p, .int .i64 n]])) (nextG l i)) -> F 2 #[true, true, true, true, true, true, true, true, true, true, true, true, true, true, false, false] { tmps := #[.pointer (some ⟨b, 0, none⟩), undef, .pointer (some ⟨w.heap.size, 0, none⟩), .pointer (some ⟨w.heap.size + 1, 0, none⟩), .pointer (some ⟨g4, 0, none⟩), .pointer (some ⟨g5, 0, none⟩), .pointer (some ⟨b, 0, none⟩), .pointer (some ⟨b, 0, none⟩), .pointer (some ⟨b, 3, none⟩), .pointer (some ⟨b, 4, none⟩), .int .i64 0, .bool false, undef, undef, undef, undef, undef, .tuple #[.agg #[.int .i64 k, .string x, .string y, .string z, .int .i64 a, .int .i64 f], .agg #[.int .i64 p, .int .i64 n]], .pointer (some ⟨b, 0, none⟩), .pointer (some ⟨b, 0, none⟩), .pointer (some ⟨b, 0, none⟩), .string (B l), .pointer (some ⟨b, 0, none⟩), .pointer (some ⟨b, 0, none⟩), .pointer (some ⟨b, 1, none⟩), .int .i64 (i : Int), .tuple #[.agg #[.int .i64 k, .string x, .string y, .string z, .int .i64 a, .int .i64 f], .agg #[.int .i64 p, .int .i64 n]], .agg #[.int .i64 k, .string x, .string y, .string z, .int .i64 a, .int .i64 f], .agg #[.int .i64 p, .int .i64 n], undef, undef, undef, undef, undef, undef, undef, undef, undef, undef, undef, undef, undef, undef, undef, undef, undef, undef, undef, undef, undef, undef, undef, undef, undef, undef, undef, undef, undef, undef, undef, undef, undef, undef, undef, undef, undef, undef, undef, undef, undef, undef, undef, undef, undef, undef, undef, undef, undef, undef, undef], defers := [] } u := by
   intro g4 g5 k x y z a f p n u hN hU hA rA hB rB hne hT
   subst hF
   have HU := hid hU
   refine wpAnyH_ready (rs := [14]) (by kernel_rfl) (by simp) ?_
   refine AllReadyH.cons rfl (fun K hK => ?_) ?_
   ·obtain ⟨⟨a0, a1, a2, a3, a4, a5⟩, p0, p1, p2, p3, p4, p5⟩ := row6 rA
    go_simp
    exact hK.out _ _ (nx_cells (hN.six (by have := HSZ.out; omega) hbw k x y z a f)) (fun _ => sABCS g4 g5 k x y z a f p n (six u g4 k x y z a f) (hN.six (by have := HSZ.out; omega) hbw k x y z a f) (by rw [size_six]; exact hU) hA (six_row rA rfl k x y z a f) hB (six_other rB (Ne.symm hne) k x y z a f) hne hT)
   exact AllReadyH.nil
  have sAC : ∀ (g4 : Nat) (k : Int) (x y z : ByteArray) (a f p n : Int) (u : World), NxAt w u b l i less -> W.heap.size <= u.heap.size -> W.heap.size <= g4 -> RowAt u g4 TokZ -> Hid (TokRef (.returned (.tuple #[tokV k x y z a f, .agg #[.int .i64 p, .int .i64 n]])) (nextG l i)) -> F 3 #[true, true, true, true, true, true, true, true, true, true, true, true, true, false, false, false] { tmps := #[.pointer (some ⟨b, 0, none⟩), undef, .pointer (some ⟨w.heap.size, 0, none⟩), .pointer (some ⟨w.heap.size + 1, 0, none⟩), .pointer (some ⟨g4, 0, none⟩), undef, .pointer (some ⟨b, 0, none⟩), .pointer (some ⟨b, 0, none⟩), .pointer (some ⟨b, 3, none⟩), .pointer (some ⟨b, 4, none⟩), .int .i64 0, .bool false, undef, undef, undef, undef, undef, .tuple #[.agg #[.int .i64 k, .string x, .string y, .string z, .int .i64 a, .int .i64 f], .agg #[.int .i64 p, .int .i64 n]], .pointer (some ⟨b, 0, none⟩), .pointer (some ⟨b, 0, none⟩), .pointer (some ⟨b, 0, none⟩), .string (B l), .pointer (some ⟨b, 0, none⟩), .pointer (some ⟨b, 0, none⟩), .pointer (some ⟨b, 1, none⟩), .int .i64 (i : Int), .tuple #[.agg #[.int .i64 k, .string x, .string y, .string z, .int .i64 a, .int .i64 f], .agg #[.int .i64 p, .int .i64 n]], .agg #[.int .i64 k, .string x, .string y, .string z, .int .i64 a, .int .i64 f], .agg #[.int .i64 p, .int .i64 n], undef, undef, undef, undef, undef, undef, undef, undef, undef, undef, undef, undef, undef, undef, undef, undef, undef, undef, undef, undef, undef, undef, undef, undef, undef, undef, undef, undef, undef, undef, undef, undef, undef, undef, undef, undef, undef, undef, undef, undef, undef, undef, undef, undef, undef, undef, undef, undef, undef, undef, undef], defers := [] } u := by
   intro g4 k x y z a f p n u hN hU hA rA hT
   subst hF
   have HU := hid hU
   refine wpAnyH_ready (rs := [13]) (by kernel_rfl) (by simp) ?_
   refine AllReadyH.cons rfl (fun K hK => ?_) ?_
   ·go_simp
    have hb := (Below.refl u.heap.size u).alloc (Nat.le_refl _) (.cells #[.int .i64 0, .int .i64 0] 64)
    exact hK.out _ _ (nx_cells (hN.below hb)) (fun _ => sABC g4 (u.heap.size) k x y z a f p n _ (hN.below hb) (Nat.le_trans hU hb.size) hA (RowAt.below rA hb rA.inside) hU (rowAt_of_heap (heap_alloc_new u _)) (Nat.ne_of_lt rA.inside) hT)
   exact AllReadyH.nil
  have sBC : ∀ (g5 : Nat) (k : Int) (x y z : ByteArray) (a f p n : Int) (u : World), NxAt w u b l i less -> W.heap.size <= u.heap.size -> W.heap.size <= g5 -> RowAt u g5 [.int .i64 0, .int .i64 0] -> Hid (TokRef (.returned (.tuple #[tokV k x y z a f, .agg #[.int .i64 p, .int .i64 n]])) (nextG l i)) -> F 3 #[true, true, true, true, true, true, true, true, true, true, true, true, false, true, false, false] { tmps := #[.pointer (some ⟨b, 0, none⟩), undef, .pointer (some ⟨w.heap.size, 0, none⟩), .pointer (some ⟨w.heap.size + 1, 0, none⟩), undef, .pointer (some ⟨g5, 0, none⟩), .pointer (some ⟨b, 0, none⟩), .pointer (some ⟨b, 0, none⟩), .pointer (some ⟨b, 3, none⟩), .pointer (some ⟨b, 4, none⟩), .int .i64 0, .bool false, undef, undef, undef, undef, undef, .tuple #[.agg #[.int .i64 k, .string x, .string y, .string z, .int .i64 a, .int .i64 f], .agg #[.int .i64 p, .int .i64 n]], .pointer (some ⟨b, 0, none⟩), .pointer (some ⟨b, 0, none⟩), .pointer (some ⟨b, 0, none⟩), .string (B l), .pointer (some ⟨b, 0, none⟩), .pointer (some ⟨b, 0, none⟩), .pointer (some ⟨b, 1, none⟩), .int .i64 (i : Int), .tuple #[.agg #[.int .i64 k, .string x, .string y, .string z, .int .i64 a, .int .i64 f], .agg #[.int .i64 p, .int .i64 n]], .agg #[.int .i64 k, .string x, .string y, .string z, .int .i64 a, .int .i64 f], .agg #[.int .i64 p, .int .i64 n], undef, undef, undef, undef, undef, undef, undef, undef, undef, undef, undef, undef, undef, undef, undef, undef, undef, undef, undef, undef, undef, undef, undef, undef, undef, undef, undef, undef, undef, undef, undef, undef, undef, undef, undef, undef, undef, undef, undef, undef, undef, undef, undef, undef, undef, undef, undef, undef, undef, undef, undef], defers := [] } u := by
   intro g5 k x y z a f p n u hN hU hB rB hT
   subst hF
   have HU := hid hU
   refine wpAnyH_ready (rs := [12]) (by kernel_rfl) (by simp) ?_
   refine AllReadyH.cons rfl (fun K hK => ?_) ?_
   ·go_simp
    have hb := (Below.refl u.heap.size u).alloc (Nat.le_refl _) (.cells #[.int .i64 0, .string ⟨#[]⟩, .string ⟨#[]⟩, .string ⟨#[]⟩, .int .i64 0, .int .i64 0] 50)
    exact hK.out _ _ (nx_cells (hN.below hb)) (fun _ => sABC (u.heap.size) g5 k x y z a f p n _ (hN.below hb) (Nat.le_trans hU hb.size) hU (rowAt_of_heap (heap_alloc_new u _)) hB (RowAt.below rB hb rB.inside) (Nat.ne_of_gt rB.inside) hT)
   exact AllReadyH.nil
  have sAB : ∀ (g4 : Nat) (g5 : Nat) (u : World), NxAt w u b l i less -> W.heap.size <= u.heap.size -> W.heap.size <= g4 -> RowAt u g4 TokZ -> W.heap.size <= g5 -> RowAt u g5 [.int .i64 0, .int .i64 0] -> g4 ≠ g5 -> F 6 #[true, true, true, true, true, true, true, true, false, false, false, false, true, true, false, false] { tmps := #[.pointer (some ⟨b, 0, none⟩), undef, .pointer (some ⟨w.heap.size, 0, none⟩), .pointer (some ⟨w.heap.size + 1, 0, none⟩), .pointer (some ⟨g4, 0, none⟩), .pointer (some ⟨g5, 0, none⟩), .pointer (some ⟨b, 0, none⟩), .pointer (some ⟨b, 0, none⟩), .pointer (some ⟨b, 3, none⟩), .pointer (some ⟨b, 4, none⟩), .int .i64 0, .bool false, undef, undef, undef, undef, undef, undef, .pointer (some ⟨b, 0, none⟩), .pointer (some ⟨b, 0, none⟩), .pointer (some ⟨b, 0, none⟩), .string (B l), .pointer (some ⟨b, 0, none⟩), .pointer (some ⟨b, 0, none⟩), .pointer (some ⟨b, 1, none⟩), .int .i64 (i : Int), undef, undef, undef, undef, undef, undef, undef, undef, undef, undef, undef, undef, undef, undef, undef, undef, undef, undef, undef, undef, undef, undef, undef, undef, undef, undef, undef, undef, undef, undef, undef, undef, undef, undef, undef, undef, undef, undef, undef, undef, undef, undef, undef, undef, undef, undef, undef, undef, undef, undef, undef, undef, undef, undef], defers := [] } u := by
   intro g4 g5 u hN hU hA rA hB rB hne
   subst hF
   have HU := hid hU
   refine wpAnyH_ready (rs := [8]) (by kernel_rfl) (by simp) ?_
   refine AllReadyH.cons rfl (fun K hK => ?_) ?_
   ·go_simp
    go_at_call 46
    refine (N0.out u).mono ?_
    rintro e w3 ⟨ht, hb⟩
    obtain ⟨k, x, y, z, a, f, p, n, rfl⟩ := tokRef_any ht
    go_wp2_with fail
    refine hK.out _ _ (nx_cells (hN.below hb)) (fun _ => ?_)
    refine wpAnyH_take (i := 9) (v := ?_) rfl (by kernel_rfl) (by kernel_rfl) (by kernel_rfl) (fun _ _ _ h => h) (Or.inl ⟨by rfl, ?_⟩) (nx_cells (hN.below hb)) ?_
    rotate_left
    ·intro w _; go_simp; try with_reducible rfl
    simp only [Act.put, List.setIfInBounds_toArray, List.set_cons_zero, List.set_cons_succ]
    refine wpAnyH_take (i := 10) (v := ?_) rfl (by kernel_rfl) (by kernel_rfl) (by kernel_rfl) (fun _ _ _ h => h) (Or.inl ⟨by rfl, ?_⟩) (nx_cells (hN.below hb)) ?_
    rotate_left
    ·intro w _; go_simp; try with_reducible rfl
    simp only [Act.put, List.setIfInBounds_toArray, List.set_cons_zero, List.set_cons_succ]
    refine wpAnyH_take (i := 11) (v := ?_) rfl (by kernel_rfl) (by kernel_rfl) (by kernel_rfl) (fun _ _ _ h => h) (Or.inl ⟨by rfl, ?_⟩) (nx_cells (hN.below hb)) ?_
    rotate_left
    ·intro w _; go_simp; try with_reducible rfl
    simp only [Act.put, List.setIfInBounds_toArray, List.set_cons_zero, List.set_cons_succ]
    exact sABC g4 g5 k x y z a f p n w3 (hN.below hb) (Nat.le_trans hU hb.size) hA (RowAt.below rA hb rA.inside) hB (RowAt.below rB hb rB.inside) hne (hid ht)
   exact AllReadyH.nil
  have sC : ∀ (k : Int) (x y z : ByteArray) (a f p n : Int) (u : World), NxAt w u b l i less -> W.heap.size <= u.heap.size -> Hid (TokRef (.returned (.tuple #[tokV k x y z a f, .agg #[.int .i64 p, .int .i64 n]])) (nextG l i)) -> F 4 #[true, true, true, true, true, true, true, true, true, true, true, true, false, false, false, false] { tmps := #[.pointer (some ⟨b, 0, none⟩), undef, .pointer (some ⟨w.heap.size, 0, none⟩), .pointer (some ⟨w.heap.size + 1, 0, none⟩), undef, undef, .pointer (some ⟨b, 0, none⟩), .pointer (some ⟨b, 0, none⟩), .pointer (some ⟨b, 3, none⟩), .pointer (some ⟨b, 4, none⟩), .int .i64 0, .bool false, undef, undef, undef, undef, undef, .tuple #[.agg #[.int .i64 k, .string x, .string y, .string z, .int .i64 a, .int .i64 f], .agg #[.int .i64 p, .int .i64 n]], .pointer (some ⟨b, 0, none⟩), .pointer (some ⟨b, 0, none⟩), .pointer (some ⟨b, 0, none⟩), .string (B l), .pointer (some ⟨b, 0, none⟩), .pointer (some ⟨b, 0, none⟩), .pointer (some ⟨b, 1, none⟩), .int .i64 (i : Int), .tuple #[.agg #[.int .i64 k, .string x, .string y, .string z, .int .i64 a, .int .i64 f], .agg #[.int .i64 p, .int .i64 n]], .agg #[.int .i64 k, .string x, .string y, .string z, .int .i64 a, .int .i64 f], .agg #[.int .i64 p, .int .i64 n], undef, undef, undef, undef, undef, undef, undef, undef, undef, undef, undef, undef, undef, undef, undef, undef, undef, undef, undef, undef, undef, undef, undef, undef, undef, undef, undef, undef, undef, undef, undef, undef, undef, undef, undef, undef, undef, undef, undef, undef, undef, undef, undef, undef, undef, undef, undef, undef, undef, undef, undef], defers := [] } u := by
   intro k x y z a f p n u hN hU hT
   subst hF
   have HU := hid hU
   refine wpAnyH_ready (rs := [12, 13]) (by kernel_rfl) (by simp) ?_
   refine AllReadyH.cons rfl (fun K hK => ?_) ?_
   ·go_simp
    have hb := (Below.refl u.heap.size u).alloc (Nat.le_refl _) (.cells #[.int .i64 0, .string ⟨#[]⟩, .string ⟨#[]⟩, .string ⟨#[]⟩, .int .i64 0, .int .i64 0] 50)
    exact hK.out _ _ (nx_cells (hN.below hb)) (fun _ => sAC (u.heap.size) k x y z a f p n _ (hN.below hb) (Nat.le_trans hU hb.size) hU (rowAt_of_heap (heap_alloc_new u _)) hT)
   refine AllReadyH.cons rfl (fun K hK => ?_) ?_
   ·go_simp
    have hb := (Below.refl u.heap.size u).alloc (Nat.le_refl _) (.cells #[.int .i64 0, .int .i64 0] 64)
    exact hK.out _ _ (nx_cells (hN.below hb)) (fun _ => sBC (u.heap.size) k x y z a f p n _ (hN.below hb) (Nat.le_trans hU hb.size) hU (rowAt_of_heap (heap_alloc_new u _)) hT)
   exact AllReadyH.nil
  have sA : ∀ (g4 : Nat) (u : World), NxAt w u b l i less -> W.heap.size <= u.heap.size -> W.heap.size <= g4 -> RowAt u g4 TokZ -> F 7 #[true, true, true, true, true, true, true, true, false, false, false, false, true, false, false, false] { tmps := #[.pointer (some ⟨b, 0, none⟩), undef, .pointer (some ⟨w.heap.size, 0, none⟩), .pointer (some ⟨w.heap.size + 1, 0, none⟩), .pointer (some ⟨g4, 0, none⟩), undef, .pointer (some ⟨b, 0, none⟩), .pointer (some ⟨b, 0, none⟩), .pointer (some ⟨b, 3, none⟩), .pointer (some ⟨b, 4, none⟩), .int .i64 0, .bool false, undef, undef, undef, undef, undef, undef, .pointer (some ⟨b, 0, none⟩), .pointer (some ⟨b, 0, none⟩), .pointer (some ⟨b, 0, none⟩), .string (B l), .pointer (some ⟨b, 0, none⟩), .pointer (some ⟨b, 0, none⟩), .pointer (some ⟨b, 1, none⟩), .int .i64 (i : Int), undef, undef, undef, undef, undef, undef, undef, undef, undef, undef, undef, undef, undef, undef, undef, undef, undef, undef, undef, undef, undef, undef, undef, undef, undef, undef, undef, undef, undef, undef, undef, undef, undef, undef, undef, undef, undef, undef, undef, undef, undef, undef, undef, undef, undef, undef, undef, undef, undef, undef, undef, undef, undef, undef], defers := [] } u := by
   intro g4 u hN hU hA rA
   subst hF
   have HU := hid hU
   refine wpAnyH_ready (rs := [8, 13]) (by kernel_rfl) (by simp) ?_
   refine AllReadyH.cons rfl (fun K hK => ?_) ?_
   ·go_simp
    go_at_call 46
    refine (N0.out u).mono ?_
    rintro e w3 ⟨ht, hb⟩
    obtain ⟨k, x, y, z, a, f, p, n, rfl⟩ := tokRef_any ht
    go_wp2_with fail
    refine hK.out _ _ (nx_cells (hN.below hb)) (fun _ => ?_)
    refine wpAnyH_take (i := 9) (v := ?_) rfl (by kernel_rfl) (by kernel_rfl) (by kernel_rfl) (fun _ _ _ h => h) (Or.inl ⟨by rfl, ?_⟩) (nx_cells (hN.below hb)) ?_
    rotate_left
    ·intro w _; go_simp; try with_reducible rfl
    simp only [Act.put, List.setIfInBounds_toArray, List.set_cons_zero, List.set_cons_succ]
    refine wpAnyH_take (i := 10) (v := ?_) rfl (by kernel_rfl) (by kernel_rfl) (by kernel_rfl) (fun _ _ _ h => h) (Or.inl ⟨by rfl, ?_⟩) (nx_cells (hN.below hb)) ?_
    rotate_left
    ·intro w _; go_simp; try with_reducible rfl
    simp only [Act.put, List.setIfInBounds_toArray, List.set_cons_zero, List.set_cons_succ]
    refine wpAnyH_take (i := 11) (v := ?_) rfl (by kernel_rfl) (by kernel_rfl) (by kernel_rfl) (fun _ _ _ h => h) (Or.inl ⟨by rfl, ?_⟩) (nx_cells (hN.below hb)) ?_
    rotate_left
    ·intro w _; go_simp; try with_reducible rfl
    simp only [Act.put, List.setIfInBounds_toArray, List.set_cons_zero, List.set_cons_succ]
    exact sAC g4 k x y z a f p n w3 (hN.below hb) (Nat.le_trans hU hb.size) hA (RowAt.below rA hb rA.inside) (hid ht)
   refine AllReadyH.cons rfl (fun K hK => ?_) ?_
   ·go_simp
    have hb := (Below.refl u.heap.size u).alloc (Nat.le_refl _) (.cells #[.int .i64 0, .int .i64 0] 64)
    exact hK.out _ _ (nx_cells (hN.below hb)) (fun _ => sAB g4 (u.heap.size) _ (hN.below hb) (Nat.le_trans hU hb.size) hA (RowAt.below rA hb rA.inside) hU (rowAt_of_heap (heap_alloc_new u _)) (Nat.ne_of_lt rA.inside))
   exact AllReadyH.nil
  have sB : ∀ (g5 : Nat) (u : World), NxAt w u b l i less -> W.heap.size <= u.heap.size -> W.heap.size <= g5 -> RowAt u g5 [.int .i64 0, .int .i64 0] -> F 7 #[true, true, true, true, true, true, true, true, false, false, false, false, false, true, false, false] { tmps := #[.pointer (some ⟨b, 0, none⟩), undef, .pointer (some ⟨w.heap.size, 0, none⟩), .pointer (some ⟨w.heap.size + 1, 0, none⟩), undef, .pointer (some ⟨g5, 0, none⟩), .pointer (some ⟨b, 0, none⟩), .pointer (some ⟨b, 0, none⟩), .pointer (some ⟨b, 3, none⟩), .pointer (some ⟨b, 4, none⟩), .int .i64 0, .bool false, undef, undef, undef, undef, undef, undef, .pointer (some ⟨b, 0, none⟩), .pointer (some ⟨b, 0, none⟩), .pointer (some ⟨b, 0, none⟩), .string (B l), .pointer (some ⟨b, 0, none⟩), .pointer (some ⟨b, 0, none⟩), .pointer (some ⟨b, 1, none⟩), .int .i64 (i : Int), undef, undef, undef, undef, undef, undef, undef, undef, undef, undef, undef, undef, undef, undef, undef, undef, undef, undef, undef, undef, undef, undef, undef, undef, undef, undef, undef, undef, undef, undef, undef, undef, undef, undef, undef, undef, undef, undef, undef, undef, undef, undef, undef, undef, undef, undef, undef, undef, undef, undef, undef, undef, undef, undef], defers := [] } u := by
   intro g5 u hN hU hB rB
   subst hF
   have HU := hid hU
   refine wpAnyH_ready (rs := [8, 12]) (by kernel_rfl) (by simp) ?_
   refine AllReadyH.cons rfl (fun K hK => ?_) ?_
   ·go_simp
    go_at_call 46
    refine (N0.out u).mono ?_
    rintro e w3 ⟨ht, hb⟩
    obtain ⟨k, x, y, z, a, f, p, n, rfl⟩ := tokRef_any ht
    go_wp2_with fail
    refine hK.out _ _ (nx_cells (hN.below hb)) (fun _ => ?_)
    refine wpAnyH_take (i := 9) (v := ?_) rfl (by kernel_rfl) (by kernel_rfl) (by kernel_rfl) (fun _ _ _ h => h) (Or.inl ⟨by rfl, ?_⟩) (nx_cells (hN.below hb)) ?_
    rotate_left
    ·intro w _; go_simp; try with_reducible rfl
    simp only [Act.put, List.setIfInBounds_toArray, List.set_cons_zero, List.set_cons_succ]
    refine wpAnyH_take (i := 10) (v := ?_) rfl (by kernel_rfl) (by kernel_rfl) (by kernel_rfl) (fun _ _ _ h => h) (Or.inl ⟨by rfl, ?_⟩) (nx_cells (hN.below hb)) ?_
    rotate_left
    ·intro w _; go_simp; try with_reducible rfl
    simp only [Act.put, List.setIfInBounds_toArray, List.set_cons_zero, List.set_cons_succ]
    refine wpAnyH_take (i := 11) (v := ?_) rfl (by kernel_rfl) (by kernel_rfl) (by kernel_rfl) (fun _ _ _ h => h) (Or.inl ⟨by rfl, ?_⟩) (nx_cells (hN.below hb)) ?_
    rotate_left
    ·intro w _; go_simp; try with_reducible rfl
    simp only [Act.put, List.setIfInBounds_toArray, List.set_cons_zero, List.set_cons_succ]
    exact sBC g5 k x y z a f p n w3 (hN.below hb) (Nat.le_trans hU hb.size) hB (RowAt.below rB hb rB.inside) (hid ht)
   refine AllReadyH.cons rfl (fun K hK => ?_) ?_
   ·go_simp
    have hb := (Below.refl u.heap.size u).alloc (Nat.le_refl _) (.cells #[.int .i64 0, .string ⟨#[]⟩, .string ⟨#[]⟩, .string ⟨#[]⟩, .int .i64 0, .int .i64 0] 50)
    exact hK.out _ _ (nx_cells (hN.below hb)) (fun _ => sAB (u.heap.size) g5 _ (hN.below hb) (Nat.le_trans hU hb.size) hU (rowAt_of_heap (heap_alloc_new u _)) hB (RowAt.below rB hb rB.inside) (Nat.ne_of_gt rB.inside))
   exact AllReadyH.nil
  have s : ∀ (u : World), NxAt w u b l i less -> W.heap.size <= u.heap.size -> F 8 #[true, true, true, true, true, true, true, true, false, false, false, false, false, false, false, false] { tmps := #[.pointer (some ⟨b, 0, none⟩), undef, .pointer (some ⟨w.heap.size, 0, none⟩), .pointer (some ⟨w.heap.size + 1, 0, none⟩), undef, undef, .pointer (some ⟨b, 0, none⟩), .pointer (some ⟨b, 0, none⟩), .pointer (some ⟨b, 3, none⟩), .pointer (some ⟨b, 4, none⟩), .int .i64 0, .bool false, undef, undef, undef, undef, undef, undef, .pointer (some ⟨b, 0, none⟩), .pointer (some ⟨b, 0, none⟩), .pointer (some ⟨b, 0, none⟩), .string (B l), .pointer (some ⟨b, 0, none⟩), .pointer (some ⟨b, 0, none⟩), .pointer (some ⟨b, 1, none⟩), .int .i64 (i : Int), undef, undef, undef, undef, undef, undef, undef, undef, undef, undef, undef, undef, undef, undef, undef, undef, undef, undef, undef, undef, undef, undef, undef, undef, undef, undef, undef, undef, undef, undef, undef, undef, undef, undef, undef, undef, undef, undef, undef, undef, undef, undef, undef, undef, undef, undef, undef, undef, undef, undef, undef, undef, undef, undef], defers := [] } u := by
   intro u hN hU
   subst hF
   have HU := hid hU
   refine wpAnyH_ready (rs := [8, 12, 13]) (by kernel_rfl) (by simp) ?_
   refine AllReadyH.cons rfl (fun K hK => ?_) ?_
   ·go_simp
    go_at_call 46
    refine (N0.out u).mono ?_
    rintro e w3 ⟨ht, hb⟩
    obtain ⟨k, x, y, z, a, f, p, n, rfl⟩ := tokRef_any ht
    go_wp2_with fail
    refine hK.out _ _ (nx_cells (hN.below hb)) (fun _ => ?_)
    refine wpAnyH_take (i := 9) (v := ?_) rfl (by kernel_rfl) (by kernel_rfl) (by kernel_rfl) (fun _ _ _ h => h) (Or.inl ⟨by rfl, ?_⟩) (nx_cells (hN.below hb)) ?_
    rotate_left
    ·intro w _; go_simp; try with_reducible rfl
    simp only [Act.put, List.setIfInBounds_toArray, List.set_cons_zero, List.set_cons_succ]
    refine wpAnyH_take (i := 10) (v := ?_) rfl (by kernel_rfl) (by kernel_rfl) (by kernel_rfl) (fun _ _ _ h => h) (Or.inl ⟨by rfl, ?_⟩) (nx_cells (hN.below hb)) ?_
    rotate_left
    ·intro w _; go_simp; try with_reducible rfl
    simp only [Act.put, List.setIfInBounds_toArray, List.set_cons_zero, List.set_cons_succ]
    refine wpAnyH_take (i := 11) (v := ?_) rfl (by kernel_rfl) (by kernel_rfl) (by kernel_rfl) (fun _ _ _ h => h) (Or.inl ⟨by rfl, ?_⟩) (nx_cells (hN.below hb)) ?_
    rotate_left
    ·intro w _; go_simp; try with_reducible rfl
    simp only [Act.put, List.setIfInBounds_toArray, List.set_cons_zero, List.set_cons_succ]
    exact sC k x y z a f p n w3 (hN.below hb) (Nat.le_trans hU hb.size) (hid ht)
   refine AllReadyH.cons rfl (fun K hK => ?_) ?_
   ·go_simp
    have hb := (Below.refl u.heap.size u).alloc (Nat.le_refl _) (.cells #[.int .i64 0, .string ⟨#[]⟩, .string ⟨#[]⟩, .string ⟨#[]⟩, .int .i64 0, .int .i64 0] 50)
    exact hK.out _ _ (nx_cells (hN.below hb)) (fun _ => sA (u.heap.size) _ (hN.below hb) (Nat.le_trans hU hb.size) hU (rowAt_of_heap (heap_alloc_new u _)))
   refine AllReadyH.cons rfl (fun K hK => ?_) ?_
   ·go_simp
    have hb := (Below.refl u.heap.size u).alloc (Nat.le_refl _) (.cells #[.int .i64 0, .int .i64 0] 64)
    exact hK.out _ _ (nx_cells (hN.below hb)) (fun _ => sB (u.heap.size) _ (hN.below hb) (Nat.le_trans hU hb.size) hU (rowAt_of_heap (heap_alloc_new u _)))
   exact AllReadyH.nil
  exact s W.drew HN.out.same (Nat.le_refl _)
 case rest =>
  obtain ⟨g4, g5, k, x, y, z, a, f, p, n, rfl, rfl, HT, h4, h5, hne, HR4, HR5, HN⟩ := hcut
  clear x0 x1 x2 x3 x4 f1 f3 f4 hbl hlt hlt0 N0
  have h5g : w.heap.size + 2 <= g5 := by omega
  have q1 : ¬ g4 = b := by omega
  have q2 : ¬ g5 = b := by omega
  have q3 : ¬ g4 = g5 := hne
  have q4 : ¬ g5 = g4 := fun e => hne e.symm
  have q5 : ¬ g4 = w.heap.size := by omega
  have q6 : ¬ g5 = w.heap.size := by omega
  have q7 : ¬ g4 = w.heap.size + 1 := by omega
  have q8 : ¬ g5 = w.heap.size + 1 := by omega
  have q9 : ¬ b = g4 := by omega
  have q10 : ¬ b = g5 := by omega
  have hn0' : w.heap.size ≠ b := by omega
  have hn1' : w.heap.size + 1 ≠ b := by omega
  clear h4 h5 hne hsz HSZ
  have hna := next_at hi
  obtain ⟨r, hr⟩ : ∃ r, nextG l i = r := ⟨_, rfl⟩
  rw [hr] at hna HT
  have HS1 : Hid (∀ t, r = .inl t -> stepG l less i = if less = true /\ t.kind = 0 then .inr (l.length, 40) else .inl t) := hid (fun t h => by unfold stepG; rw [hr, h])
  have HS2 : Hid (∀ f, r = .inr f -> stepG l less i = if less = true /\ f.1 = l.length then .inr (l.length, 40) else .inr f) := hid (fun t h => by unfold stepG; rw [hr, h])
  clear hr
  rcases r with ⟨K, X, Y, Z, A, fin⟩ | ⟨P, N⟩
  ·have HS := hid (HS1.out _ rfl)
   clear HS1 HS2
   obtain ⟨f0, rfl⟩ : ∃ f0 : Nat, fin = (f0 : Int) := by
    rcases hna with ⟨e, _⟩ | ⟨_, _, ⟨_, ⟨e, he, _⟩, _⟩, _⟩
    ·cases e; exact ⟨_, rfl⟩
    ·exact ⟨e, he⟩
   have e := HT.out
   simp [TokRef, tokV] at e
   obtain ⟨⟨rfl, rfl, rfl, rfl, rfl, rfl⟩, rfl, rfl⟩ := e
   clear hna HT
   by_cases hc : less = true /\ k = 0
   ·obtain ⟨rfl, rfl⟩ := hc
    have HI : Hid (stepG l true i = .inr (l.length, 40)) := hid (HS.out.trans (if_pos ⟨rfl, rfl⟩))
    clear HS
    obtain ⟨b0, b1, b2, b3, b4, b5⟩ := (row6 HR4.out).1
    obtain ⟨c0, c1, v0, v1⟩ := two_of HR5.out
    obtain ⟨⟨x0, x1, x2, x3, x4⟩, ⟨f1, f3, f4⟩, hbl⟩ := row5 HN.out.x
    obtain ⟨a0, a1, a2, a3, a4, a5, p0, p1, p2, p3, p4, p5, d0, d1, e0, e1, hlt⟩ := HN.out.k
    have hlt0 := Nat.lt_of_succ_lt hlt
    go_upto_region 4 with fail
    go_quiet (fail)
    go_wp2_with fail
    go_region
    go_wp2_with fail
    rw [HI.out]
    have M := ((HN.out.drewN nq).set h5g hbw 0 (.int .i64 (l.length : Int))).set h5g hbw 1 (.int .i64 40)
    exact rnext_drew (k := 0) (x := ⟨#[]⟩) (y := ⟨#[]⟩) (z := ⟨#[]⟩) (a := 0) (e := 0) (p := (l.length : Int)) (n := 40) (fn := Tryz.f26) rfl ((M.k.other hn0' hn1' 3 (.int .i64 (l.length : Int))).other hn0' hn1' 4 (.int .i64 40)) (Nat.le_refl _) (RowAt.set5 M.x (.int .i64 (l.length : Int)) (.int .i64 40)) hn0 hn1 (grown_own (grown_own M.g 3 (.int .i64 (l.length : Int))) 4 (.int .i64 40)) rfl rfl
   have HI : Hid (stepG l less i = .inl ⟨k, X, Y, Z, a, (f0 : Nat)⟩) := hid (HS.out.trans (if_neg hc))
   clear HS
   cases less with
   | false =>
    clear hc
    obtain ⟨b0, b1, b2, b3, b4, b5⟩ := (row6 HR4.out).1
    obtain ⟨c0, c1, v0, v1⟩ := two_of HR5.out
    obtain ⟨⟨x0, x1, x2, x3, x4⟩, ⟨f1, f3, f4⟩, hbl⟩ := row5 HN.out.x
    obtain ⟨a0, a1, a2, a3, a4, a5, p0, p1, p2, p3, p4, p5, d0, d1, e0, e1, hlt⟩ := HN.out.k
    have hlt0 := Nat.lt_of_succ_lt hlt
    go_upto_region 4 with fail
    go_quiet (fail)
    go_wp2_with fail
    rw [HI.out]
    exact rnext_done (k := k) (x := B X) (y := B Y) (z := B Z) (a := a) (e := (f0 : Int)) (p := 0) (n := 0) (fn := Tryz.f26) rfl ((HN.out.k.drewN _).other hn0' hn1' 1 (.int .i64 (f0 : Int))) (Nat.le_refl _) (RowAt.at5 (rowN HN.out.x _) (.int .i64 (f0 : Int))) hn0 hn1 (grown_own (grown_drewN HN.out.g _) 1 (.int .i64 (f0 : Int))) rfl rfl
   | true =>
    have z0 : (k == 0) = false := beq_eq_false_iff_ne.2 (fun e => hc ⟨rfl, e⟩)
    clear hc
    obtain ⟨b0, b1, b2, b3, b4, b5⟩ := (row6 HR4.out).1
    obtain ⟨c0, c1, v0, v1⟩ := two_of HR5.out
    obtain ⟨⟨x0, x1, x2, x3, x4⟩, ⟨f1, f3, f4⟩, hbl⟩ := row5 HN.out.x
    obtain ⟨a0, a1, a2, a3, a4, a5, p0, p1, p2, p3, p4, p5, d0, d1, e0, e1, hlt⟩ := HN.out.k
    have hlt0 := Nat.lt_of_succ_lt hlt
    go_upto_region 4 with fail
    go_quiet (fail)
    go_wp2_with fail
    rw [HI.out]
    exact rnext_done (k := k) (x := B X) (y := B Y) (z := B Z) (a := a) (e := (f0 : Int)) (p := 0) (n := 0) (fn := Tryz.f26) rfl ((HN.out.k.drewN _).other hn0' hn1' 1 (.int .i64 (f0 : Int))) (Nat.le_refl _) (RowAt.at5 (rowN HN.out.x _) (.int .i64 (f0 : Int))) hn0 hn1 (grown_own (grown_drewN HN.out.g _) 1 (.int .i64 (f0 : Int))) rfl rfl
  ·have HS := hid (HS2.out _ rfl)
   clear HS1 HS2
   have n0 : (N == 0) = false := beq_eq_false_iff_ne.2 (by have := hna.2.2; omega)
   have n1 : (N != 0) = true := bne_iff_ne.2 (by have := hna.2.2; omega)
   have e := HT.out
   simp [TokRef, tokV] at e
   obtain ⟨⟨rfl, rfl, rfl, rfl, rfl, rfl⟩, rfl, rfl⟩ := e
   clear hna HT
   by_cases hc : less = true /\ P = l.length
   ·obtain ⟨rfl, hP⟩ := hc
    have HI : Hid (stepG l true i = .inr (l.length, 40)) := hid (HS.out.trans (if_pos ⟨rfl, hP⟩))
    clear HS
    have z1 : ((P : Int) == (l.length : Int)) = true := beq_iff_eq.2 (by omega)
    clear hP
    obtain ⟨b0, b1, b2, b3, b4, b5⟩ := (row6 HR4.out).1
    obtain ⟨c0, c1, v0, v1⟩ := two_of HR5.out
    obtain ⟨⟨x0, x1, x2, x3, x4⟩, ⟨f1, f3, f4⟩, hbl⟩ := row5 HN.out.x
    obtain ⟨a0, a1, a2, a3, a4, a5, p0, p1, p2, p3, p4, p5, d0, d1, e0, e1, hlt⟩ := HN.out.k
    have hlt0 := Nat.lt_of_succ_lt hlt
    go_upto_region 4 with fail
    go_quiet (fail)
    go_wp2_with fail
    go_region
    go_wp2_with fail
    rw [HI.out]
    have M := ((HN.out.drewN nq).set h5g hbw 0 (.int .i64 (l.length : Int))).set h5g hbw 1 (.int .i64 40)
    exact rnext_drew (k := 0) (x := ⟨#[]⟩) (y := ⟨#[]⟩) (z := ⟨#[]⟩) (a := 0) (e := 0) (p := (l.length : Int)) (n := 40) (fn := Tryz.f26) rfl ((M.k.other hn0' hn1' 3 (.int .i64 (l.length : Int))).other hn0' hn1' 4 (.int .i64 40)) (Nat.le_refl _) (RowAt.set5 M.x (.int .i64 (l.length : Int)) (.int .i64 40)) hn0 hn1 (grown_own (grown_own M.g 3 (.int .i64 (l.length : Int))) 4 (.int .i64 40)) rfl rfl
   have HI : Hid (stepG l less i = .inr (P, n)) := hid (HS.out.trans (if_neg hc))
   clear HS
   cases less with
   | false =>
    clear hc
    obtain ⟨b0, b1, b2, b3, b4, b5⟩ := (row6 HR4.out).1
    obtain ⟨c0, c1, v0, v1⟩ := two_of HR5.out
    obtain ⟨⟨x0, x1, x2, x3, x4⟩, ⟨f1, f3, f4⟩, hbl⟩ := row5 HN.out.x
    obtain ⟨a0, a1, a2, a3, a4, a5, p0, p1, p2, p3, p4, p5, d0, d1, e0, e1, hlt⟩ := HN.out.k
    have hlt0 := Nat.lt_of_succ_lt hlt
    go_upto_region 4 with fail
    go_quiet (fail)
    go_wp2_with fail
    go_region
    go_wp2_with fail
    rw [HI.out]
    have M := HN.out.drewN nq
    exact rnext_drew (k := 0) (x := ⟨#[]⟩) (y := ⟨#[]⟩) (z := ⟨#[]⟩) (a := 0) (e := 0) (p := (P : Int)) (n := n) (fn := Tryz.f26) rfl ((M.k.other hn0' hn1' 3 (.int .i64 (P : Int))).other hn0' hn1' 4 (.int .i64 n)) (Nat.le_refl _) (RowAt.set5 M.x (.int .i64 (P : Int)) (.int .i64 n)) hn0 hn1 (grown_own (grown_own M.g 3 (.int .i64 (P : Int))) 4 (.int .i64 n)) rfl rfl
   | true =>
    have z1 : ((P : Int) == (l.length : Int)) = false := beq_eq_false_iff_ne.2 (fun e => hc ⟨rfl, by omega⟩)
    clear hc
    obtain ⟨b0, b1, b2, b3, b4, b5⟩ := (row6 HR4.out).1
    obtain ⟨c0, c1, v0, v1⟩ := two_of HR5.out
    obtain ⟨⟨x0, x1, x2, x3, x4⟩, ⟨f1, f3, f4⟩, hbl⟩ := row5 HN.out.x
    obtain ⟨a0, a1, a2, a3, a4, a5, p0, p1, p2, p3, p4, p5, d0, d1, e0, e1, hlt⟩ := HN.out.k
    have hlt0 := Nat.lt_of_succ_lt hlt
    go_upto_region 4 with fail
    go_quiet (fail)
    go_wp2_with fail
    go_region
    go_wp2_with fail
    rw [HI.out]
    have M := HN.out.drewN nq
    exact rnext_drew (k := 0) (x := ⟨#[]⟩) (y := ⟨#[]⟩) (z := ⟨#[]⟩) (a := 0) (e := 0) (p := (P : Int)) (n := n) (fn := Tryz.f26) rfl ((M.k.other hn0' hn1' 3 (.int .i64 (P : Int))).other hn0' hn1' 4 (.int .i64 n)) (Nat.le_refl _) (RowAt.set5 M.x (.int .i64 (P : Int)) (.int .i64 n)) hn0 hn1 (grown_own (grown_own M.g 3 (.int .i64 (P : Int))) 4 (.int .i64 n)) rfl rfl
end Go.Proofs.YtdhmpakhdhdebaaGreatDoor
