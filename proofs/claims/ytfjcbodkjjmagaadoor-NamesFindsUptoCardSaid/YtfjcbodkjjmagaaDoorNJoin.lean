/-
  names.Join: contract. By an AI agent.
-/
import Derived.Test.YtfjcbodkjjmagaaDoorAdd
import Derived.Test.YtfjcbodkjjmagaaDoorShelf
import Derived.Deep.RegionLaw
namespace Go.Proofs.YtfjcbodkjjmagaaDoor
open Go.RowKit
set_option maxRecDepth 100000

/-- a tag's cells -/
def tagCells (t : TagL) (a1 a2 : Option Addr) (c1 c2 : Nat) : Array Value := #[.string (B t.lang), .string (B t.ext), .string (B t.script), .string (B t.region), .slice a1 t.vars.length c1, .slice a2 t.exts.length c2, .string (B t.priv)]
theorem new_cell {w w' : World} {cs : Array Value} {T : TypeId} (h : Below (w.alloc (.cells cs T)).heap.size (w.alloc (.cells cs T)) w') (k : Nat) (x : Value) (hx : cs[k]? = some x) : w'.cell? ⟨w.heap.size, k, none⟩ = some x := by
  rw [h.cell (p := ⟨w.heap.size, k, none⟩) (by simp), World.cell?_alloc_new]
  exact hx
theorem new_frozen {w w' : World} {cs : Array Value} {T : TypeId} (h : Below (w.alloc (.cells cs T)).heap.size (w.alloc (.cells cs T)) w') (k : Nat) : w'.frozen? ⟨w.heap.size, k, none⟩ = false := by
  rw [h.frozen (p := ⟨w.heap.size, k, none⟩) (by simp)]
  simp

theorem VarOf.alloc {w : World} {b : Nat} {v : Value} {ls : List (List UInt8)} (h : VarOf w b v ls) (o : Obj) : VarOf (w.alloc o) b v ls := by
  have hl := World.block_lt_of_cell? _ _ h.1
  exact ⟨by rw [World.cell?_alloc_lt _ _ _ hl]; exact h.1, by rw [World.frozen?_alloc_old _ _ _ (Nat.ne_of_lt hl)]; exact h.2.1, h.2.2.alloc _⟩
theorem mapB : ∀ (l : List (List UInt8)), (l.map B).map (fun s => s.data.toList) = l
  | [] => rfl
  | x :: r => by rw [List.map_cons, List.map_cons, mapB r, B_toList]
theorem joinS (ls : List (List UInt8)) (a : Option Addr) (n c : Nat) (w : World) (hn : n = ls.length) (hA : At w a (ls.map strV)) (hc : ls.length ≤ c) (hl : ls.length ≤ 140737488355328) (hj : (joinD ls).length ≤ 140737488355328) :
    Calls Tryd.prog 83 #[.slice a n c, .string { data := #[45] }] w fun e w' => e = .returned (.string (B (joinD ls))) ∧ Below w.heap.size w w' := by
  subst hn
  rcases ls with _ | ⟨x, r⟩
  · refine (Tryd.strings_Join_none a c ⟨#[45]⟩ w).mono ?_
    rintro e w' ⟨rfl, rfl⟩
    exact ⟨rfl, Below.refl _ _⟩
  · obtain ⟨b, o, rfl⟩ := hA.place (by simp)
    have hm := mapB (x :: r)
    have hb := World.block_lt_of_cell? _ _ (hA.get (j := 0) (by simp))
    have h := Tryd.strings_Join b o c ((x :: r).map B) ⟨#[45]⟩ w (fun j y hy => by
      obtain ⟨hj', rfl⟩ := List.getElem?_eq_some_iff.1 hy
      have h := hA.get (j := j) (by simpa using hj')
      rw [List.getElem_map] at h ⊢
      exact h) hb (by simpa using hl) (by simpa using hc) (by rw [hm, join_joinD]; exact hj)
    rw [hm, join_joinD, List.length_map] at h
    exact h
/-- what stays as it is while Join works: its tag's cells, the row's variable's cell -/
def JF (w u : World) (cs : Array Value) (v0 : Value) : Prop := Below w.heap.size w u ∧ u.cell? ⟨w.heap.size + 1, 0, none⟩ = some v0 ∧ u.frozen? ⟨w.heap.size + 1, 0, none⟩ = false ∧ ∀ (k : Nat) (x : Value), cs[k]? = some x → u.cell? ⟨w.heap.size, k, none⟩ = some x
theorem JF.grown {w u u' : World} {cs : Array Value} {v0 : Value} {row : Option Nat} (h : JF w u cs v0) (hg : u.grownBy u' row) (hr : ∀ k, row = some k → w.heap.size + 1 + 1 ≤ k) : JF w u' cs v0 := by
  have hl : w.heap.size + 1 < u.heap.size := World.block_lt_of_cell? _ _ h.2.1
  have n1 : some (w.heap.size + 1) ≠ row := fun e => by have := hr _ e.symm; omega
  have n0 : some w.heap.size ≠ row := fun e => by have := hr _ e.symm; omega
  exact ⟨h.1.grown hg (by omega) (fun k hk => by have := hr k hk; omega), (hg.cell_far ⟨w.heap.size + 1, 0, none⟩ hl n1).trans h.2.1, (hg.frozen_far ⟨w.heap.size + 1, 0, none⟩ hl n1).trans h.2.2.1,
    fun k x hx => (hg.cell_far ⟨w.heap.size, k, none⟩ (by show w.heap.size < _; omega) n0).trans (h.2.2.2 k x hx)⟩
theorem JF.drew {w u : World} {cs : Array Value} {v0 : Value} (h : JF w u cs v0) : JF w u.drew cs v0 := ⟨h.1.drew, h.2⟩

set_option maxHeartbeats 6400000 in
theorem join_l (t : TagL) (a1 a2 : Option Addr) (c1 c2 : Nat) (w : World) (h1 : t.vars.length ≤ 16777216) (h2 : t.exts.length ≤ 16777216) (hj : (joinT t).length ≤ 140737488355328) (hA1 : At w a1 (t.vars.map strV)) (hA2 : At w a2 (t.exts.map strV)) (hn1 : a1 = none → c1 = 0) (hn2 : a2 = none → c2 = 0) :
    Calls Tryd.prog 37 #[.agg (tagCells t a1 a2 c1 c2)] w fun e w' => e = .returned (.string (B (joinT t))) ∧ Below w.heap.size w w' := by
  obtain ⟨i0, hi, hz0, hz1, hz2⟩ := info_parts infoStr
  have ADD := Lib.hid add_l
  obtain ⟨lang, ext, script, region, vars, exts, priv⟩ := t
  simp only at h1 h2 hA1 hA2
  unfold tagCells
  simp only
  obtain ⟨W1, hW1⟩ : ∃ W1, w.alloc (.cells #[.string (B lang), .string (B ext), .string (B script), .string (B region), .slice a1 vars.length c1, .slice a2 exts.length c2, .string (B priv)] 43) = W1 := ⟨_, rfl⟩
  obtain ⟨W2, hW2⟩ : ∃ W2, W1.alloc (.cells #[.slice none 0 0] 41) = W2 := ⟨_, rfl⟩
  obtain ⟨W3, hW3⟩ : ∃ W3, W2.alloc (.cells #[.string (B lang), .string (B ext), .string (B script), .string (B region)] 9) = W3 := ⟨_, rfl⟩
  have s1 : W1.heap.size = w.heap.size + 1 := by rw [← hW1, World.size_alloc]
  have s2 : W2.heap.size = w.heap.size + 1 + 1 := by rw [← hW2, World.size_alloc, s1]
  have s3 : W3.heap.size = w.heap.size + 1 + 1 + 1 := by rw [← hW3, World.size_alloc, s2]
  have hb12 : Below W1.heap.size W1 W2 := by rw [← hW2]; exact (Below.refl _ _).alloc (Nat.le_refl _) _
  have hb23 : Below W2.heap.size W2 W3 := by rw [← hW3]; exact (Below.refl _ _).alloc (Nat.le_refl _) _
  have hb01 : Below w.heap.size w W1 := by rw [← hW1]; exact (Below.refl _ _).alloc (Nat.le_refl _) _
  have hb13 : Below W1.heap.size W1 W3 := hb12.trans (hb23.mono hb12.size)
  have hb03 : Below w.heap.size w W3 := hb01.trans (hb13.mono hb01.size)
  have TC : Hid (∀ u, Below W1.heap.size W1 u → ∀ (k : Nat) (x : Value), (#[.string (B lang), .string (B ext), .string (B script), .string (B region), .slice a1 vars.length c1, .slice a2 exts.length c2, .string (B priv)] : Array Value)[k]? = some x → u.cell? ⟨w.heap.size, k, none⟩ = some x) :=
    Lib.hid (fun u h k x hx => new_cell (T := 43) (by rw [hW1]; exact h) k x hx)
  have k0 := TC.out W2 hb12 0 _ rfl
  have k1 := TC.out W2 hb12 1 _ rfl
  have k2 := TC.out W2 hb12 2 _ rfl
  have k3 := TC.out W2 hb12 3 _ rfl
  have v3 : VarOf W3 (w.heap.size + 1) (.slice none 0 0) [] := by
    have hx : Below (W1.alloc (.cells #[.slice none 0 0] 41)).heap.size (W1.alloc (.cells #[.slice none 0 0] 41)) W3 := by rw [hW2]; exact hb23
    refine ⟨?_, ?_, World.ownsRow_nil _ _ _ _⟩
    · have h := new_cell hx 0 _ rfl
      rw [s1] at h
      exact h
    · have h := new_frozen hx 0
      rw [s1] at h
      exact h
  have l3 : At W3 (some ⟨w.heap.size + 1 + 1, 0, none⟩) ([lang, ext, script, region].map strV) := by
    have h := at_row W2 ([lang, ext, script, region].map strV) 9
    rw [s2] at h
    rw [← hW3]
    exact h
  have ADD4 : Hid (Calls Tryd.prog 82 #[.slice (some ⟨w.heap.size + 1 + 1, 0, none⟩) 4 4, .pointer (some ⟨w.heap.size + 1, 0, none⟩)] W3 fun e w' => (∃ r, e = .returned r) ∧ ∃ v', VarOf w' (w.heap.size + 1) v' ([] ++ keepL [lang, ext, script, region]) ∧ Below (w.heap.size + 1) W3 w') :=
    Lib.hid (add_l [lang, ext, script, region] [] (some ⟨w.heap.size + 1 + 1, 0, none⟩) 4 (w.heap.size + 1) (.slice none 0 0) W3 (by simp) (by simp) l3 v3 (fun p e => by cases e; exact ⟨by simp [Value.ownBlock], by simp⟩))
  obtain ⟨f4, hf4⟩ : ∃ f4, keepL [lang, ext, script, region] = f4 := ⟨_, rfl⟩
  have hl4 : f4.length ≤ 4 := by rw [← hf4]; exact keepL_len _
  have HJ : Hid (joinT ⟨lang, ext, script, region, vars, exts, priv⟩ = joinD (((f4 ++ vars) ++ exts) ++ keepL [priv])) := Lib.hid (by unfold joinT partsT; rw [← hf4])
  rw [hf4, List.nil_append] at ADD4
  have HA1 := Lib.hid (hA1.below hb03)
  have HA2 := Lib.hid (hA2.below hb03)
  have HB := Lib.hid (And.intro hb03 (And.intro hb13 (And.intro hb01 hA1)))
  have HA2w := Lib.hid hA2
  clear hb12 hb23 hb01 hb13 hb03 v3 l3 hA1 hA2 hf4
  go_enter Tryd.func37, Tryd.ntmps37
  go_wp2_with (go_at_call 82; refine ADD4.out.mono ?_; rintro e w4 ⟨⟨r, rfl⟩, v4, hv4, hx4⟩)
  obtain ⟨hc4, hf4, hown4⟩ := hv4
  have J4 : JF w w4 #[.string (B lang), .string (B ext), .string (B script), .string (B region), .slice a1 vars.length c1, .slice a2 exts.length c2, .string (B priv)] v4 := ⟨HB.out.1.trans (hx4.mono (by omega)), hc4, hf4, fun k x hx => (hx4.cell (p := ⟨w.heap.size, k, none⟩) (by show w.heap.size < _; omega)).trans (TC.out _ HB.out.2.1 k x hx)⟩
  have t4 := J4.2.2.2 4 _ rfl
  have t5 := J4.2.2.2 5 _ rfl
  have hAv := HB.out.2.2.2.below J4.1
  have r4 : ∀ k, v4.ownBlock = some k → w.heap.size + 1 + 1 ≤ k := fun k hk => (hown4.lt k hk).1
  have hs4 : w.heap.size + 1 + 1 ≤ w4.heap.size := by have := World.block_lt_of_cell? _ _ hc4; exact this
  have HJ4 := Lib.hid J4
  have HR4 := Lib.hid r4
  clear J4 r4 hx4
  go_region_law (first
    | (refine step_append_texts rfl (.tmp 17) (.tmp 19) 41 rfl (w.heap.size + 1 + 1) 9 i0 (.string ⟨#[]⟩) 16 Tryd.underlying41 hi hz0 hz1 hz2 rfl v4 f4.length (f4.map strV) (by simp [Act.eval]) (by exact hown4) a1 vars.length c1 (vars.map strV) (by simp [Act.eval]) (by simp) (by exact hAv) hn1 (oneCell_texts _) (by unfold maxLen; omega) (by omega) (by exact hs4) ?_
       intro v5 w5 hown5 hg5 ho5
       have J5 : JF w w5 #[.string (B lang), .string (B ext), .string (B script), .string (B region), .slice a1 vars.length c1, .slice a2 exts.length c2, .string (B priv)] v4 := by first | exact JF.grown HJ4.out hg5 HR4.out | exact JF.grown HJ4.out.drew hg5 HR4.out
       have t55 := J5.2.2.2 5 _ rfl
       have hc5 := J5.2.1
       have hA5 := HA2w.out.below J5.1
       have hs5 : w.heap.size + 1 + 1 ≤ w5.heap.size := by have := World.block_lt_of_cell? _ _ hc5; exact this
       have r5 : ∀ k, v5.ownBlock = some k → w.heap.size + 1 + 1 ≤ k := fun k hk => (hown5.lt k hk).1
       have HJ5 := Lib.hid J5
       have HR5 := Lib.hid r5
       clear J5 r5 hg5 ho5)
    | (refine step_append_texts rfl (.tmp 20) (.tmp 22) 41 rfl (w.heap.size + 1 + 1) 9 i0 (.string ⟨#[]⟩) 16 Tryd.underlying41 hi hz0 hz1 hz2 rfl v5 (f4.length + vars.length) (f4.map strV ++ vars.map strV) (by simp [Act.eval]) (by exact hown5) a2 exts.length c2 (exts.map strV) (by simp [Act.eval]) (by simp) (by exact hA5) hn2 (oneCell_texts _) (by unfold maxLen; omega) (by omega) (by exact hs5) ?_
       intro v6 w6 hown6 hg6 ho6
       have J6 : JF w w6 #[.string (B lang), .string (B ext), .string (B script), .string (B region), .slice a1 vars.length c1, .slice a2 exts.length c2, .string (B priv)] v4 := by first | exact JF.grown HJ5.out hg6 HR5.out | exact JF.grown HJ5.out.drew hg6 HR5.out
       have hc6 := J6.2.1
       have hf6 := J6.2.2.1
       have HJ6 := Lib.hid J6
       obtain ⟨g6, d6, rfl, _, _, _⟩ := ownsRow_at hown6
       have t66 := J6.2.2.2 6 _ rfl
       have hl6 : f4.length + vars.length + exts.length = ((f4 ++ vars) ++ exts).length := by rw [List.length_append, List.length_append]
       have V6 : VarOf (w6.setCell ⟨w.heap.size + 1, 0, none⟩ (.slice g6 (f4.length + vars.length + exts.length) d6)) (w.heap.size + 1) (.slice g6 (f4.length + vars.length + exts.length) d6) ((f4 ++ vars) ++ exts) :=
         ⟨World.cell?_setCell_same' _ _ _ (by rw [hc6]; rfl), by rw [World.frozen?_setCell]; exact hf6, by rw [← hl6, List.map_append, List.map_append]; exact ownsRow_set hown6 (Nat.le_refl _) _⟩
       have V7 := Lib.hid (V6.alloc (.cells #[.string (B priv)] 9))
       have A7 := Lib.hid (at_one (w6.setCell ⟨w.heap.size + 1, 0, none⟩ (.slice g6 (f4.length + vars.length + exts.length) d6)) (.string (B priv)) 9)
       have hs6 : w6.heap.size = (w6.setCell ⟨w.heap.size + 1, 0, none⟩ (.slice g6 (f4.length + vars.length + exts.length) d6)).heap.size := by simp
       have hlt6 : w.heap.size + 1 < w6.heap.size := World.block_lt_of_cell? _ _ hc6
       have hrow6 := hown6.lt
       have N7 : Hid (∀ p : Addr, (some ⟨(w6.setCell ⟨w.heap.size + 1, 0, none⟩ (.slice g6 (f4.length + vars.length + exts.length) d6)).heap.size, 0, none⟩ : Option Addr) = some p → some p.block ≠ (Value.slice g6 (f4.length + vars.length + exts.length) d6).ownBlock ∧ p.block ≠ w.heap.size + 1) :=
         Lib.hid (fun p e => by cases e; rw [← hs6]; exact ⟨fun e2 => by have := (hrow6 _ e2.symm).2; simp at this, by simp; omega⟩)
       have ADD7 := Lib.hid (ADD.out [priv] ((f4 ++ vars) ++ exts) _ 1 (w.heap.size + 1) _ _ (by simp) (by rw [← hl6]; omega) A7.out V7.out N7.out)
       rw [← hs6] at ADD7
       have HB7 := Lib.hid ((HJ6.out.1.setCell (p := ⟨w.heap.size + 1, 0, none⟩) (by simp) (.slice g6 (f4.length + vars.length + exts.length) d6)).alloc (by rw [← hs6]; exact HJ6.out.1.size) (.cells #[.string (B priv)] 9))
       rw [Nat.add_assoc f4.length vars.length exts.length] at ADD7 HB7
       rw [List.length_singleton] at ADD7
       clear J6 hg6 ho6 V6 hs6 hrow6 hown6 V7 A7 N7))
  all_goals go_simp
  all_goals go_wp2_with (first | (go_at_call 82; (with_reducible refine ADD7.out.mono ?_); rintro e w8 ⟨⟨r8, rfl⟩, v8, hv8, hx8⟩; have hc8 := hv8.1; have hf8 := hv8.2.1; have hown8 := hv8.2.2; clear hv8; obtain ⟨g8, d8, rfl, hd8, _, hA8⟩ := ownsRow_at hown8; have JS := Lib.hid (joinS (((f4 ++ vars) ++ exts) ++ keepL [priv]) g8 (f4.length + (vars.length + (exts.length + (keepL [priv]).length))) d8 w8 (by simp only [List.length_append, Nat.add_assoc]) hA8 hd8 (by have := keepL_len [priv]; rw [List.length_append, ← hl6]; simp at this; omega) (by rw [← HJ.out]; exact hj)); have HX8 := Lib.hid hx8; clear hx8 hA8 hd8 hown8) | (go_at_call 83; (with_reducible refine JS.out.mono ?_); rintro e w9 ⟨rfl, hx9⟩))
  all_goals (go_ret; have HB8 := HB7.out.trans (HX8.out.mono (Nat.le_succ _)); exact ⟨by rw [HJ.out, List.append_assoc, List.append_assoc] <;> rfl, HB8.trans (hx9.mono HB8.size)⟩)
end Go.Proofs.YtfjcbodkjjmagaaDoor
