/-
  tesseralaw06.NamesTags: the walk. By an AI agent.
-/
import Derived.Test.YtfjcbodkjjmagaaDoorCase
import Derived.Test.YtfjcbodkjjmagaaDoorSameTag
namespace Go.Proofs.YtfjcbodkjjmagaaDoor
open Go.RowKit
set_option maxRecDepth 100000

theorem num_l (n : Int) (w : World) : Calls Tryd.prog 15 #[.int .i64 n] w fun e w' => e = .returned (.int .i64 n) ∧ w' = w := by
  go_enter Tryd.func15, Tryd.ntmps15
  go_wp2
  go_ret
  exact ⟨rfl, rfl⟩
def tagD (s : List UInt8) : TagL := (tagF s).getD noTag
def codeD (s : List UInt8) : Int := if (tagF s).isSome = true then 0 else 61
def caseD (s : List UInt8) : List UInt8 := (caseF s).getD []
def codeC (s : List UInt8) : Int := if (caseF s).isSome = true then 0 else 61
/-- what a reading answers, whether it is a tag or not -/
def TagAll (w w' : World) (e : Ending) (t : TagL) (code : Int) : Prop :=
  ∃ a1 a2 c1 c2, e = .returned (.tuple #[.agg (tagCells t a1 a2 c1 c2), .int .i64 code]) ∧ Below w.heap.size w w' ∧ w'.ownsRow w.heap.size 9 1 (.slice a1 t.vars.length c1) t.vars.length (t.vars.map strV) ∧
      w'.ownsRow w.heap.size 9 1 (.slice a2 t.exts.length c2) t.exts.length (t.exts.map strV) ∧ Apart (.slice a1 t.vars.length c1) (.slice a2 t.exts.length c2)
theorem TagPost.all {w w' : World} {e : Ending} {s : List UInt8} (h : TagPost w w' e (tagF s)) : TagAll w w' e (tagD s) (codeD s) := by
  unfold tagD codeD
  cases ht : tagF s with
  | none =>
    rw [ht] at h
    obtain ⟨h1, h2⟩ := h
    exact ⟨none, none, 0, 0, h1, h2, World.ownsRow_nil _ _ _ _, World.ownsRow_nil _ _ _ _, Apart.nil_left _⟩
  | some t =>
    rw [ht] at h
    exact h
theorem CasePost.all {w w' : World} {e : Ending} {s : List UInt8} (h : CasePost w w' e (caseF s)) : e = .returned (.tuple #[.string (B (caseD s)), .int .i64 (codeC s)]) ∧ Below w.heap.size w w' := by
  unfold caseD codeC
  cases ht : caseF s with
  | none => rw [ht] at h; exact h
  | some t => rw [ht] at h; exact h
theorem tagD_len (s : List UInt8) : (tagD s).vars.length ≤ s.length + 1 ∧ (tagD s).exts.length ≤ s.length + 1 := by
  unfold tagD
  cases ht : tagF s with
  | none => simp [noTag]
  | some t => exact partsT_vars ht

/-- between block pa and the old end nothing has turned -/
def Mid (pa : Nat) (v u : World) : Prop := v.heap.size ≤ u.heap.size ∧ ∀ k, pa < k → k < v.heap.size → u.heap[k]? = v.heap[k]?
theorem Mid.refl (pa : Nat) (v : World) : Mid pa v v := ⟨Nat.le_refl _, fun _ _ _ => rfl⟩
theorem Mid.step {pa : Nat} {v u x : World} {row : Option Nat} (h : Mid pa v u) (hg : u.grownBy x row) (hr : ∀ k, row = some k → k ≤ pa ∨ v.heap.size ≤ k) : Mid pa v x :=
  ⟨Nat.le_trans h.1 hg.size, fun k hk hl => (hg.block k (Nat.lt_of_lt_of_le hl h.1) (fun e => by have := hr k e.symm; omega)).trans (h.2 k hk hl)⟩
theorem Mid.row {pa g : Nat} {v u : World} {vs : List Value} (h : Mid pa v u) (hR : RowAt v g vs) (hp : pa < g) (hl : g < v.heap.size) : RowAt u g vs := fun j hj =>
  ⟨(World.cell?_of_block (a := ⟨g, j, none⟩) (h.2 g hp hl)).trans (hR.cell hj), (World.frozen?_of_block (a := ⟨g, j, none⟩) (h.2 g hp hl)).trans (hR.free hj)⟩
theorem Mid.at {pa : Nat} {v u : World} {a : Option Addr} {xs : List Value} (h : Mid pa v u) (hA : At v a xs) (hp : ∀ p, a = some p → pa < p.block) : At u a xs := fun j hj => by
  obtain ⟨b, o, rfl, hc⟩ := hA j hj
  have hl := World.block_lt_of_cell? _ _ hc
  exact ⟨b, o, rfl, (World.cell?_of_block (a := ⟨b, o + j, none⟩) (h.2 b (hp _ rfl) hl)).trans hc⟩
/-- a row that a call has laid, behind the variable that was made for its answer -/
theorem row_new {w w1 : World} (T : TypeId) (cs : List Value) : RowAt (w1.alloc (.cells cs.toArray T)) w1.heap.size cs := rowAt_of_heap (heap_alloc_last _ _)
theorem ownsRow_block {w : World} {base : Nat} {e : TypeId} {a : Option Addr} {n c : Nat} {xs : List Value} (h : w.ownsRow base e 1 (.slice a n c) n xs) : ∀ p, a = some p → base ≤ p.block ∧ p.block < w.heap.size := fun p hp => by
  subst hp
  exact h.lt p.block rfl
theorem At_of_own {w : World} {base : Nat} {e : TypeId} {a : Option Addr} {n c : Nat} {xs : List Value} (h : w.ownsRow base e 1 (.slice a n c) n xs) : At w a xs := by
  obtain ⟨_, _, he, _, _, hA⟩ := ownsRow_at h
  cases he
  exact hA

theorem at_one_set (x : World) (p : Addr) (v u : Value) (t : TypeId) : At ((x.setCell p v).alloc (.cells #[u] t)) (some ⟨x.heap.size, 0, none⟩) [u] := by
  have h := at_one (x.setCell p v) u t
  have e : (x.setCell p v).heap.size = x.heap.size := by simp
  rw [e] at h
  exact h
/-- what the statement's own copy is while it is spoilt: its variable, and its two rows -/
structure SpoilS (w v u : World) (pa : Nat) (l0 l1 l2 l3 l6 v4 v5 : Value) (n4 n5 : Nat) : Prop where
  row : RowAt u pa [l0, l1, l2, l3, v4, v5, l6]
  o4 : ∃ xs, u.ownsRow w.heap.size 9 1 v4 n4 xs
  o5 : ∃ xs, u.ownsRow w.heap.size 9 1 v5 n5 xs
  ap : Apart v4 v5
  mid : Mid pa v u
  bl : Below w.heap.size w u
  ge : w.heap.size ≤ pa
  p4 : v4.ownBlock ≠ some pa
  p5 : v5.ownBlock ≠ some pa
  b4 : ∀ g, v4.ownBlock = some g → g ≤ pa ∨ v.heap.size ≤ g
  b5 : ∀ g, v5.ownBlock = some g → g ≤ pa ∨ v.heap.size ≤ g
theorem own_place {w : World} {base : Nat} {e : TypeId} {a : Option Addr} {n c : Nat} {xs : List Value} (h : w.ownsRow base e 1 (.slice a n c) n xs) {j : Nat} (hj : j < n) : ∃ g v, a = some ⟨g, 0, none⟩ ∧ w.cell? ⟨g, j, none⟩ = some v ∧ w.frozen? ⟨g, j, none⟩ = false := by
  rcases h.2 with ⟨_, h0⟩ | ⟨g, cap, cur, hv, _⟩
  · omega
  · cases hv
    have hl := h.1
    have hc := h.cellAt j (by omega)
    rw [List.getElem?_eq_getElem (by omega)] at hc
    exact ⟨g, _, rfl, hc, h.frozenAt j⟩
theorem SpoilS.lp {w v u : World} {pa : Nat} {l0 l1 l2 l3 l6 v4 v5 : Value} {n4 n5 : Nat} (h : SpoilS w v u pa l0 l1 l2 l3 l6 v4 v5 n4 n5) : pa < u.heap.size := World.block_lt_of_cell? _ _ (row_of h.row 0 _ rfl).1
theorem SpoilS.set4 {w v u : World} {pa g n4 n5 c : Nat} {l0 l1 l2 l3 l6 v5 : Value} (h : SpoilS w v u pa l0 l1 l2 l3 l6 (.slice (some ⟨g, 0, none⟩) n4 c) v5 n4 n5) (j : Nat) (x : Value) : SpoilS w v (u.setCell ⟨g, j, none⟩ x) pa l0 l1 l2 l3 l6 (.slice (some ⟨g, 0, none⟩) n4 c) v5 n4 n5 := by
  obtain ⟨xs, h4⟩ := h.o4
  obtain ⟨ys, h5⟩ := h.o5
  obtain ⟨s1, s2⟩ := h4.stored j x
  have hg := h4.lt g rfl
  exact ⟨h.row.grown s2 (fun e => h.p4 e.symm) h.lp, ⟨_, s1⟩, ⟨_, h5.kept s2 h.ap.symm.ne⟩, h.ap, h.mid.step s2 (fun k hk => by cases hk; exact h.b4 g rfl), h.bl.grown s2 h.bl.size (fun k hk => by cases hk; exact hg.1), h.ge, h.p4, h.p5, h.b4, h.b5⟩
theorem SpoilS.set5 {w v u : World} {pa g n4 n5 c : Nat} {l0 l1 l2 l3 l6 v4 : Value} (h : SpoilS w v u pa l0 l1 l2 l3 l6 v4 (.slice (some ⟨g, 0, none⟩) n5 c) n4 n5) (j : Nat) (x : Value) : SpoilS w v (u.setCell ⟨g, j, none⟩ x) pa l0 l1 l2 l3 l6 v4 (.slice (some ⟨g, 0, none⟩) n5 c) n4 n5 := by
  obtain ⟨xs, h4⟩ := h.o4
  obtain ⟨ys, h5⟩ := h.o5
  obtain ⟨s1, s2⟩ := h5.stored j x
  have hg := h5.lt g rfl
  exact ⟨h.row.grown s2 (fun e => h.p5 e.symm) h.lp, ⟨_, h4.kept s2 h.ap.ne⟩, ⟨_, s1⟩, h.ap, h.mid.step s2 (fun k hk => by cases hk; exact h.b5 g rfl), h.bl.grown s2 h.bl.size (fun k hk => by cases hk; exact hg.1), h.ge, h.p4, h.p5, h.b4, h.b5⟩
/-- its variants grow by one -/
theorem SpoilS.app4 {w v u x : World} {pa n4 n5 n : Nat} {l0 l1 l2 l3 l6 v4 v5 v9 : Value} {xs : List Value} (h : SpoilS w v u pa l0 l1 l2 l3 l6 v4 v5 n4 n5) (hg : u.grownBy x v4.ownBlock) (ho : x.ownsRow w.heap.size 9 1 v9 (n4 + 1) xs)
    (hb : v9.ownBlock = v4.ownBlock ∨ v9.ownBlock = some n) (hn : u.heap.size ≤ n) : RowAt x pa [l0, l1, l2, l3, v4, v5, l6] ∧ SpoilS w v (x.setCell ⟨pa, 4, none⟩ v9) pa l0 l1 l2 l3 l6 v9 v5 (n4 + 1) n5 := by
  obtain ⟨ys, h4⟩ := h.o4
  obtain ⟨zs, h5⟩ := h.o5
  have hs := grownBy_set x pa 4 v9
  have hr := h.row.grown hg (fun e => h.p4 e.symm) h.lp
  have hlp := h.lp
  have hmid := h.mid.1
  have p9 : v9.ownBlock ≠ some pa := by
    rcases hb with e | e
    · rw [e]; exact h.p4
    · rw [e]; intro e2; cases e2; omega
  have b9 : ∀ g, v9.ownBlock = some g → g ≤ pa ∨ v.heap.size ≤ g := fun g hg => by
    rcases hb with e | e
    · exact h.b4 g (e ▸ hg)
    · rw [e] at hg; cases hg; exact .inr (by omega)
  have k5 := h5.kept hg h.ap.symm.ne
  refine ⟨hr, hr.set (j := 4) (by simp) _, ⟨_, ho.kept hs (.inr p9)⟩, ⟨_, k5.kept hs (.inr h.p5)⟩, h.ap.grows hb (fun g hg => by have := (h5.lt g hg).2; omega), (h.mid.step hg h.b4).step hs (fun k hk => by cases hk; exact .inl (Nat.le_refl _)), ?_, h.ge, p9, h.p5, b9, h.b5⟩
  have hbl := h.bl.grown hg h.bl.size (fun k hk => (h4.lt k hk).1)
  exact hbl.grown hs hbl.size (fun k hk => by cases hk; exact h.ge)
theorem SpoilS.app5 {w v u x : World} {pa n4 n5 n : Nat} {l0 l1 l2 l3 l6 v4 v5 v9 : Value} {xs : List Value} (h : SpoilS w v u pa l0 l1 l2 l3 l6 v4 v5 n4 n5) (hg : u.grownBy x v5.ownBlock) (ho : x.ownsRow w.heap.size 9 1 v9 (n5 + 1) xs)
    (hb : v9.ownBlock = v5.ownBlock ∨ v9.ownBlock = some n) (hn : u.heap.size ≤ n) : RowAt x pa [l0, l1, l2, l3, v4, v5, l6] ∧ SpoilS w v (x.setCell ⟨pa, 5, none⟩ v9) pa l0 l1 l2 l3 l6 v4 v9 n4 (n5 + 1) := by
  obtain ⟨ys, h4⟩ := h.o4
  obtain ⟨zs, h5⟩ := h.o5
  have hs := grownBy_set x pa 5 v9
  have hr := h.row.grown hg (fun e => h.p5 e.symm) h.lp
  have hlp := h.lp
  have hmid := h.mid.1
  have p9 : v9.ownBlock ≠ some pa := by
    rcases hb with e | e
    · rw [e]; exact h.p5
    · rw [e]; intro e2; cases e2; omega
  have b9 : ∀ g, v9.ownBlock = some g → g ≤ pa ∨ v.heap.size ≤ g := fun g hg => by
    rcases hb with e | e
    · exact h.b5 g (e ▸ hg)
    · rw [e] at hg; cases hg; exact .inr (by omega)
  have k4 := h4.kept hg h.ap.ne
  refine ⟨hr, hr.set (j := 5) (by simp) _, ⟨_, k4.kept hs (.inr h.p4)⟩, ⟨_, ho.kept hs (.inr p9)⟩, (h.ap.symm.grows hb (fun g hg => by have := (h4.lt g hg).2; omega)).symm, (h.mid.step hg h.b5).step hs (fun k hk => by cases hk; exact .inl (Nat.le_refl _)), ?_, h.ge, h.p4, p9, h.b4, b9⟩
  have hbl := h.bl.grown hg h.bl.size (fun k hk => (h5.lt k hk).1)
  exact hbl.grown hs hbl.size (fun k hk => by cases hk; exact h.ge)

set_option maxHeartbeats 6400000 in
theorem tags_walk (s : List UInt8) (w : World) (hM : MaxAt w) (hs : s.length ≤ 1048576) :
    Calls Tryd.prog 8 #[.string (B s)] w fun e w' => e = .returned (.bool true) ∧ Below w.heap.size w w' := by
  have TG := Lib.hid (fun u (h : Below w.heap.size w u) => (tag_l s u (hM.below h) (by omega)).mono fun e w' h => h.all)
  have RT := Lib.hid (fun u => (refTag_l s u (by omega)).mono fun e w' h => h.all)
  have CA := Lib.hid (fun u (h : Below w.heap.size w u) => (case_l s u (hM.below h) (by omega)).mono fun e w' h => h.all)
  have RC := Lib.hid (fun u => (refCase_l s u (by omega)).mono fun e w' h => h.all)
  have LO := Lib.hid (fun u => lower_l s u (by unfold maxLen; omega))
  have RL := Lib.hid (fun u => refLower_l s u (by unfold maxLen; omega))
  have hlen := tagD_len s
  generalize tagD s = t at *
  generalize codeD s = cd at *
  generalize caseD s = cs at *
  generalize codeC s = cc at *
  obtain ⟨lang, ext, script, region, vars, exts, priv⟩ := t
  simp only at hlen
  have hl1 : vars.length ≤ 1048577 := by omega
  have hl2 : exts.length ≤ 1048577 := by omega
  clear hM hlen
  go_enter Tryd.func8, Tryd.ntmps8
  go_wp2_with fail
  refine (TG.out w (Below.refl _ _)).mono ?_
  rintro e w1 ⟨a1, a2, c1, c2, rfl, hb1, ho1, ho2, hap⟩
  simp only [tagCells]
  go_wp2_with fail
  have rA := row_new (w := w) (w1 := w1) 43 [.string (B lang), .string (B ext), .string (B script), .string (B region), .slice a1 vars.length c1, .slice a2 exts.length c2, .string (B priv)]
  have hbA : Below w1.heap.size w1 (w1.alloc (.cells #[.string (B lang), .string (B ext), .string (B script), .string (B region), .slice a1 vars.length c1, .slice a2 exts.length c2, .string (B priv)] 43)) := (Below.refl _ _).alloc (Nat.le_refl _) _
  have sA : (w1.alloc (.cells #[.string (B lang), .string (B ext), .string (B script), .string (B region), .slice a1 vars.length c1, .slice a2 exts.length c2, .string (B priv)] 43)).heap.size = w1.heap.size + 1 := World.size_alloc _ _
  generalize w1.alloc (.cells #[.string (B lang), .string (B ext), .string (B script), .string (B region), .slice a1 vars.length c1, .slice a2 exts.length c2, .string (B priv)] 43) = V1 at *
  have hbV1 := hb1.trans (hbA.mono hb1.size)
  refine (TG.out V1 hbV1).mono ?_
  rintro e w3 ⟨b1, b2, d1, d2, rfl, hb3, po1, po2, _⟩
  simp only [tagCells]
  go_wp2_with fail
  have rB := row_new (w := w) (w1 := w3) 43 [.string (B lang), .string (B ext), .string (B script), .string (B region), .slice b1 vars.length d1, .slice b2 exts.length d2, .string (B priv)]
  have hbB : Below w3.heap.size w3 (w3.alloc (.cells #[.string (B lang), .string (B ext), .string (B script), .string (B region), .slice b1 vars.length d1, .slice b2 exts.length d2, .string (B priv)] 43)) := (Below.refl _ _).alloc (Nat.le_refl _) _
  have sB : (w3.alloc (.cells #[.string (B lang), .string (B ext), .string (B script), .string (B region), .slice b1 vars.length d1, .slice b2 exts.length d2, .string (B priv)] 43)).heap.size = w3.heap.size + 1 := World.size_alloc _ _
  generalize w3.alloc (.cells #[.string (B lang), .string (B ext), .string (B script), .string (B region), .slice b1 vars.length d1, .slice b2 exts.length d2, .string (B priv)] 43) = V2 at *
  refine (RT.out V2).mono ?_
  rintro e w5 ⟨q1, q2, f1, f2, rfl, hb5, qo1, qo2, _⟩
  simp only [tagCells]
  go_wp2_with fail
  have rW := row_new (w := w) (w1 := w5) 43 [.string (B lang), .string (B ext), .string (B script), .string (B region), .slice q1 vars.length f1, .slice q2 exts.length f2, .string (B priv)]
  have hbW : Below w5.heap.size w5 (w5.alloc (.cells #[.string (B lang), .string (B ext), .string (B script), .string (B region), .slice q1 vars.length f1, .slice q2 exts.length f2, .string (B priv)] 43)) := (Below.refl _ _).alloc (Nat.le_refl _) _
  have sW : (w5.alloc (.cells #[.string (B lang), .string (B ext), .string (B script), .string (B region), .slice q1 vars.length f1, .slice q2 exts.length f2, .string (B priv)] 43)).heap.size = w5.heap.size + 1 := World.size_alloc _ _
  generalize w5.alloc (.cells #[.string (B lang), .string (B ext), .string (B script), .string (B region), .slice q1 vars.length f1, .slice q2 exts.length f2, .string (B priv)] 43) = V3 at *
  have s3 := hb3.size
  have s5 := hb5.size
  have hx3 := hbA.trans (hb3.mono hbA.size)
  have hbV2 := hbV1.trans ((hb3.trans (hbB.mono hb3.size)).mono hbV1.size)
  have hbV3 := hbV2.trans ((hb5.trans (hbW.mono hb5.size)).mono hbV2.size)
  refine (CA.out V3 hbV3).mono ?_
  rintro e w6 ⟨rfl, hb6⟩
  go_wp2_with fail
  refine (RC.out w6).mono ?_
  rintro e w7 ⟨rfl, hb7⟩
  -- what each holds at w7
  have hB37 : Below V3.heap.size V3 w7 := hb6.trans (hb7.mono hb6.size)
  have hB27 : Below V2.heap.size V2 w7 := (hb5.trans (hbW.mono hb5.size)).trans (hB37.mono (by omega))
  have hB17 : Below V1.heap.size V1 w7 := (hb3.trans (hbB.mono hb3.size)).trans (hB27.mono (by omega))
  have hB07 : Below w.heap.size w w7 := hbV1.trans (hB17.mono hbV1.size)
  have AA : RowAt w7 w1.heap.size _ ∧ w7.ownsRow w.heap.size 9 1 (.slice a1 vars.length c1) vars.length (vars.map strV) ∧ w7.ownsRow w.heap.size 9 1 (.slice a2 exts.length c2) exts.length (exts.map strV) :=
    ⟨rA.below hB17 (by omega), ownsRow_below (ownsRow_below ho1 hbA) hB17, ownsRow_below (ownsRow_below ho2 hbA) hB17⟩
  have BB : RowAt w7 w3.heap.size _ ∧ At w7 b1 (vars.map strV) ∧ At w7 b2 (exts.map strV) :=
    ⟨rB.below hB27 (by omega), ((At_of_own po1).below hbB).below hB27, ((At_of_own po2).below hbB).below hB27⟩
  have WW : RowAt w7 w5.heap.size _ ∧ At w7 q1 (vars.map strV) ∧ At w7 q2 (exts.map strV) :=
    ⟨rW.below hB37 (by omega), ((At_of_own qo1).below hbW).below hB37, ((At_of_own qo2).below hbW).below hB37⟩
  have PA : (∀ p, a1 = some p → p.block < w1.heap.size) ∧ (∀ p, a2 = some p → p.block < w1.heap.size) := ⟨fun p h => (ownsRow_block ho1 p h).2, fun p h => (ownsRow_block ho2 p h).2⟩
  have PB : (∀ p, b1 = some p → w1.heap.size < p.block) ∧ (∀ p, b2 = some p → w1.heap.size < p.block) := ⟨fun p h => by have := (ownsRow_block po1 p h).1; omega, fun p h => by have := (ownsRow_block po2 p h).1; omega⟩
  have PW : (∀ p, q1 = some p → w1.heap.size < p.block) ∧ (∀ p, q2 = some p → w1.heap.size < p.block) := ⟨fun p h => by have := (ownsRow_block qo1 p h).1; omega, fun p h => by have := (ownsRow_block qo2 p h).1; omega⟩
  have pab : w1.heap.size < w3.heap.size := by omega
  have paw : w1.heap.size < w5.heap.size := by omega
  have pw7 : w5.heap.size < w7.heap.size := by have := hB37.size; omega
  have pwa : w.heap.size ≤ w1.heap.size := hb1.size
  generalize w1.heap.size = pa at *
  generalize w3.heap.size = pb at *
  generalize w5.heap.size = pw at *
  have HAA := Lib.hid AA
  have HBB := Lib.hid BB
  have HWW := Lib.hid WW
  have HPP := Lib.hid (And.intro PA (And.intro PB PW))
  have HB := Lib.hid hB07
  have HAP := Lib.hid hap
  clear AA BB WW PA PB PW hB07 hB17 hB27 hB37 hap rA rB rW hbA hbB hbW sA sB sW hb1 hb3 hb5 hb6 hb7 ho1 ho2 po1 po2 qo1 qo2 hbV1 hbV2 hbV3 s3 s5 hx3 TG RT CA RC
  clear V1 V2 V3 w1 w3 w5 w6
  have ST1 : Hid (∀ u, Below w7.heap.size w7 u → Calls Tryd.prog 33 #[.agg #[.string (B lang), .string (B ext), .string (B script), .string (B region), .slice a1 vars.length c1, .slice a2 exts.length c2, .string (B priv)], .agg #[.string (B lang), .string (B ext), .string (B script), .string (B region), .slice q1 vars.length f1, .slice q2 exts.length f2, .string (B priv)]] u fun e w' => e = .returned (.bool true) ∧ Below u.heap.size u w') :=
    Lib.hid (fun u h => sameTag_yes ⟨lang, ext, script, region, vars, exts, priv⟩ a1 a2 q1 q2 c1 c2 f1 f2 u (by show vars.length ≤ _; omega) (by show exts.length ≤ _; omega) ((At_of_own HAA.out.2.1).below h) ((At_of_own HAA.out.2.2).below h) (HWW.out.2.1.below h) (HWW.out.2.2.below h))
  have ST2 : Hid (∀ u, At u b1 (vars.map strV) → At u b2 (exts.map strV) → At u q1 (vars.map strV) → At u q2 (exts.map strV) → Calls Tryd.prog 33 #[.agg #[.string (B lang), .string (B ext), .string (B script), .string (B region), .slice b1 vars.length d1, .slice b2 exts.length d2, .string (B priv)], .agg #[.string (B lang), .string (B ext), .string (B script), .string (B region), .slice q1 vars.length f1, .slice q2 exts.length f2, .string (B priv)]] u fun e w' => e = .returned (.bool true) ∧ Below u.heap.size u w') :=
    Lib.hid (fun u h1 h2 h3 h4 => sameTag_yes ⟨lang, ext, script, region, vars, exts, priv⟩ b1 b2 q1 q2 d1 d2 f1 f2 u (by show vars.length ≤ _; omega) (by show exts.length ≤ _; omega) h1 h2 h3 h4)
  have pa7 : pa < w7.heap.size := World.block_lt_of_cell? _ _ (row_of HAA.out.1 0 _ rfl).1
  have pb7 : pb < w7.heap.size := World.block_lt_of_cell? _ _ (row_of HBB.out.1 0 _ rfl).1
  have y0 := (row_of HAA.out.1 0 _ rfl).1; have y1 := (row_of HAA.out.1 1 _ rfl).1; have y2 := (row_of HAA.out.1 2 _ rfl).1; have y3 := (row_of HAA.out.1 3 _ rfl).1; have y4 := (row_of HAA.out.1 4 _ rfl).1; have y5 := (row_of HAA.out.1 5 _ rfl).1; have y6 := (row_of HAA.out.1 6 _ rfl).1
  have z0 := (row_of HWW.out.1 0 _ rfl).1; have z1 := (row_of HWW.out.1 1 _ rfl).1; have z2 := (row_of HWW.out.1 2 _ rfl).1; have z3 := (row_of HWW.out.1 3 _ rfl).1; have z4 := (row_of HWW.out.1 4 _ rfl).1; have z5 := (row_of HWW.out.1 5 _ rfl).1; have z6 := (row_of HWW.out.1 6 _ rfl).1
  have NUM := Lib.hid num_l
  go_wp2_with (first
    | (go_at_call 15; (with_reducible refine (NUM.out _ _).mono ?_); rintro e v8 ⟨rfl, hv8⟩; obtain rfl := hv8.symm)
    | (go_at_call 33; (with_reducible refine (ST1.out w7 (Below.refl _ _)).mono ?_); rintro e w8 ⟨rfl, hb8⟩; have hB8 := HBB.out.1.below hb8 pb7; have hW8 := HWW.out.1.below hb8 pw7; have m0 := (row_of hB8 0 _ rfl).1; have m1 := (row_of hB8 1 _ rfl).1; have m2 := (row_of hB8 2 _ rfl).1; have m3 := (row_of hB8 3 _ rfl).1; have m4 := (row_of hB8 4 _ rfl).1; have m5 := (row_of hB8 5 _ rfl).1; have m6 := (row_of hB8 6 _ rfl).1; have n0 := (row_of hW8 0 _ rfl).1; have n1 := (row_of hW8 1 _ rfl).1; have n2 := (row_of hW8 2 _ rfl).1; have n3 := (row_of hW8 3 _ rfl).1; have n4 := (row_of hW8 4 _ rfl).1; have n5 := (row_of hW8 5 _ rfl).1; have n6 := (row_of hW8 6 _ rfl).1; have HB8 := Lib.hid hb8; have SS := Lib.hid (ST2.out w8 (HBB.out.2.1.below hb8) (HBB.out.2.2.below hb8) (HWW.out.2.1.below hb8) (HWW.out.2.2.below hb8)); clear hb8 hB8 hW8)
    | (go_at_call 33; (with_reducible refine SS.out.mono ?_); rintro e w9 ⟨rfl, hb9⟩; have HB9 := Lib.hid (HB8.out.trans (hb9.mono HB8.out.size)); clear hb9)
    | (go_at_call 34; (with_reducible refine (LO.out _).mono ?_); rintro e w10 ⟨rfl, hb10⟩; have HB10 := Lib.hid (HB9.out.trans (hb10.mono HB9.out.size)); clear hb10)
    | (go_at_call 35; (with_reducible refine (RL.out _).mono ?_); rintro e w11 ⟨rfl, hb11⟩; have HB11 := Lib.hid (HB10.out.trans (hb11.mono HB10.out.size)); clear hb11)
    | fail)
  have hb11 := HB11.out
  have pa11 : pa < w11.heap.size := by have := hb11.size; omega
  have S0 : SpoilS w w11 w11 pa (.string (B lang)) (.string (B ext)) (.string (B script)) (.string (B region)) (.string (B priv)) (.slice a1 vars.length c1) (.slice a2 exts.length c2) vars.length exts.length :=
    ⟨HAA.out.1.below hb11 pa7, ⟨_, ownsRow_below HAA.out.2.1 hb11⟩, ⟨_, ownsRow_below HAA.out.2.2 hb11⟩, HAP.out, Mid.refl _ _, HB.out.trans (hb11.mono HB.out.size), pwa,
      fun e => by
        rcases a1 with _ | ⟨p, o, q⟩
        · cases e
        · cases e; exact Nat.lt_irrefl _ (HPP.out.1.1 _ rfl),
      fun e => by
        rcases a2 with _ | ⟨p, o, q⟩
        · cases e
        · cases e; exact Nat.lt_irrefl _ (HPP.out.1.2 _ rfl),
      fun g e => by
        rcases a1 with _ | ⟨p, o, q⟩
        · cases e
        · cases e; exact .inl (Nat.le_of_lt (HPP.out.1.1 _ rfl)),
      fun g e => by
        rcases a2 with _ | ⟨p, o, q⟩
        · cases e
        · cases e; exact .inl (Nat.le_of_lt (HPP.out.1.2 _ rfl))⟩
  have HS0 := Lib.hid S0
  have HEND : Hid (∀ u, Mid pa w11 u → RowAt u pb [.string (B lang), .string (B ext), .string (B script), .string (B region), .slice b1 vars.length d1, .slice b2 exts.length d2, .string (B priv)] ∧ RowAt u pw [.string (B lang), .string (B ext), .string (B script), .string (B region), .slice q1 vars.length f1, .slice q2 exts.length f2, .string (B priv)] ∧ At u b1 (vars.map strV) ∧ At u b2 (exts.map strV) ∧ At u q1 (vars.map strV) ∧ At u q2 (exts.map strV)) :=
    Lib.hid (fun u h => ⟨h.row (HBB.out.1.below hb11 pb7) pab (by have := hb11.size; omega), h.row (HWW.out.1.below hb11 pw7) paw (by have := hb11.size; omega), h.at (HBB.out.2.1.below hb11) HPP.out.2.1.1, h.at (HBB.out.2.2.below hb11) HPP.out.2.1.2, h.at (HWW.out.2.1.below hb11) HPP.out.2.2.1, h.at (HWW.out.2.2.below hb11) HPP.out.2.2.2⟩)
  clear S0 hb11 HB8 HB9 HB10 HB11 SS ST1 HAA HBB HWW LO RL NUM HPP HAP HB y0 y1 y2 y3 y4 y5 y6 z0 z1 z2 z3 z4 z5 z6 m0 m1 m2 m3 m4 m5 m6 n0 n1 n2 n3 n4 n5 n6
  clear w8 w9 w10
  go_loopw [13] (fun i wr => ∃ j : Nat, i = .int .i64 j ∧ j ≤ vars.length ∧ Hid (SpoilS w w11 wr pa (.string (B lang)) (.string (B ext)) (.string (B script)) (.string (B region)) (.string (B priv)) (.slice a1 vars.length c1) (.slice a2 exts.length c2) vars.length exts.length)) (fun i _ => vars.length - (intOf i).toNat)
  case atStart => exact ⟨0, rfl, Nat.zero_le _, HS0⟩
  case round =>
    clear HS0
    obtain ⟨j, rfl, hj, HS⟩ := hrel
    have y4 := (row_of HS.out.row 4 _ rfl).1
    by_cases hlt : j < vars.length
    · obtain ⟨xs, hx⟩ := HS.out.o4
      obtain ⟨g, x, rfl, hc, hf⟩ := own_place hx hlt
      have HS2 := Lib.hid (HS.out.set4 j (.string ⟨#[115, 112, 111, 105, 108, 116]⟩))
      clear hx
      go_wp2_with fail
      go_roundw
      case rel => exact ⟨j + 1, by go_num, hlt, HS2⟩
      case measure => simp [intOf]; omega
    · go_wp2_with fail
      clear y4
      obtain ⟨wo, rfl⟩ : ∃ wo : World, wo = wr := ⟨_, rfl⟩
      go_loopw [14] (fun i wr => ∃ j : Nat, i = .int .i64 j ∧ j ≤ exts.length ∧ Hid (SpoilS w w11 wr pa (.string (B lang)) (.string (B ext)) (.string (B script)) (.string (B region)) (.string (B priv)) (.slice a1 vars.length c1) (.slice a2 exts.length c2) vars.length exts.length)) (fun i _ => exts.length - (intOf i).toNat)
      case atStart => exact ⟨0, rfl, Nat.zero_le _, HS⟩
      case round =>
        clear HS hj hlt
        obtain ⟨j, rfl, hj, HS⟩ := hrel
        have y5 := (row_of HS.out.row 5 _ rfl).1
        by_cases hlt : j < exts.length
        · obtain ⟨xs, hx⟩ := HS.out.o5
          obtain ⟨g, x, rfl, hc, hf⟩ := own_place hx hlt
          have HS2 := Lib.hid (HS.out.set5 j (.string ⟨#[115, 112, 111, 105, 108, 116]⟩))
          clear hx
          go_wp2_with fail
          go_roundw
          case rel => exact ⟨j + 1, by go_num, hlt, HS2⟩
          case measure => simp [intOf]; omega
        · go_wp2_with fail
          clear y5
          obtain ⟨wp, rfl⟩ : ∃ wp : World, wp = wr := ⟨_, rfl⟩
          obtain ⟨i0, hi, hz0, hz1, hz2⟩ := info_parts infoStr
          go_loopw [15] (fun i wr => ∃ (j n4 n5 : Nat) (v4 v5 : Value), i = .int .i64 j ∧ j ≤ 20 ∧ n4 ≤ 1048577 + j ∧ n5 ≤ 1048577 + j ∧ Hid (SpoilS w w11 wr pa (.string (B lang)) (.string (B ext)) (.string (B script)) (.string (B region)) (.string (B priv)) v4 v5 n4 n5)) (fun i _ => 20 - (intOf i).toNat)
          case atStart => exact ⟨0, _, _, _, _, rfl, by omega, by omega, by omega, HS⟩
          case round =>
            clear HS hj hlt
            obtain ⟨j, n4, n5, v4, v5, rfl, hj, hn4, hn5, HS⟩ := hrel
            by_cases hlt : j < 20
            · have y4 := (row_of HS.out.row 4 _ rfl).1
              obtain ⟨xs, hx⟩ := HS.out.o4
              have hsz : w.heap.size ≤ wr.heap.size := HS.out.bl.size
              have tokA : True := trivial
              go_wp2_with (at_builtin; refine wpList_append_texts rfl (.tmp 102) (.tmp 103) 41 rfl w.heap.size 9 i0 (.string ⟨#[]⟩) 16 Tryd.underlying41 hi hz0 hz1 hz2 rfl _ _ _ rfl (hx.alloc _) (some ⟨wr.heap.size, 0, none⟩) 1 1 [.string ⟨#[109, 111, 114, 101]⟩] rfl rfl (at_one _ _ _) (fun h => nomatch h) (fun u hu => by rw [List.mem_singleton.1 hu]; rfl) ?c4 ?c5 ?c6 ?_)
              case c4 => unfold maxLen; omega
              case c5 => omega
              case c6 => rw [World.size_alloc]; omega
              intro v9 w9 hown9 hg9 ho9
              obtain ⟨hr9, hS9⟩ := HS.out.app4 (grown_trans (World.grownBy_alloc wr _ _) hg9) hown9 ho9 (by simp)
              have x4 := (row_of hr9 4 _ rfl).1
              have f4 := (row_of hr9 4 _ rfl).2
              have y5 := (row_of hr9 5 _ rfl).1
              have HS9 := Lib.hid hS9
              obtain ⟨g9, d9, rfl, _, _, _⟩ := ownsRow_at hown9
              clear hr9 hS9 hown9 hg9 ho9 hx y4
              obtain ⟨ys, hy⟩ := HS9.out.o5
              have hsz9 : w.heap.size ≤ (w9.setCell ⟨pa, 4, none⟩ (.slice g9 (n4 + 1) d9)).heap.size := HS9.out.bl.size
              go_wp2_with (at_builtin; refine wpList_append_texts rfl (.tmp 107) (.tmp 108) 41 rfl w.heap.size 9 i0 (.string ⟨#[]⟩) 16 Tryd.underlying41 hi hz0 hz1 hz2 rfl _ _ _ rfl (hy.alloc _) (some ⟨w9.heap.size, 0, none⟩) 1 1 [.string ⟨#[109, 111, 114, 101]⟩] rfl rfl (at_one_set _ _ _ _ _) (fun h => nomatch h) (fun u hu => by rw [List.mem_singleton.1 hu]; rfl) ?c4 ?c5 ?c6 ?_)
              case c4 => unfold maxLen; omega
              case c5 => omega
              case c6 => rw [World.size_alloc]; omega
              intro v10 w10 hown10 hg10 ho10
              obtain ⟨hr10, hS10⟩ := HS9.out.app5 (grown_trans (World.grownBy_alloc _ _ _) hg10) hown10 ho10 (by simp)
              have x5 := (row_of hr10 5 _ rfl).1
              have f5 := (row_of hr10 5 _ rfl).2
              have HS10 := Lib.hid hS10
              obtain ⟨g10, d10, rfl, _, _, _⟩ := ownsRow_at hown10
              clear hr10 hS10 hown10 hg10 ho10 hy y5 x4 f4
              go_wp2_with fail
              go_roundw
              case rel => exact ⟨j + 1, _, _, _, _, by go_num, by omega, by omega, by omega, HS10⟩
              case measure => simp [intOf]; omega
            · obtain ⟨hB, hW, e1, e2, e3, e4⟩ := HEND.out wr HS.out.mid
              have m0 := (row_of hB 0 _ rfl).1; have m1 := (row_of hB 1 _ rfl).1; have m2 := (row_of hB 2 _ rfl).1; have m3 := (row_of hB 3 _ rfl).1; have m4 := (row_of hB 4 _ rfl).1; have m5 := (row_of hB 5 _ rfl).1; have m6 := (row_of hB 6 _ rfl).1
              have n0 := (row_of hW 0 _ rfl).1; have n1 := (row_of hW 1 _ rfl).1; have n2 := (row_of hW 2 _ rfl).1; have n3 := (row_of hW 3 _ rfl).1; have n4 := (row_of hW 4 _ rfl).1; have n5 := (row_of hW 5 _ rfl).1; have n6 := (row_of hW 6 _ rfl).1
              have S2 := Lib.hid (ST2.out wr e1 e2 e3 e4)
              clear hB hW e1 e2 e3 e4
              go_wp2_with (go_at_call 33; (with_reducible refine S2.out.mono ?_); rintro e w12 ⟨rfl, hb12⟩)
              go_ret
              exact ⟨rfl, HS.out.bl.trans (hb12.mono HS.out.bl.size)⟩
end Go.Proofs.YtfjcbodkjjmagaaDoor
