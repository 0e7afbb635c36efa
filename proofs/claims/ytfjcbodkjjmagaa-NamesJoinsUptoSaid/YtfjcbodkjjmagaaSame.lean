/-
  sameTexts, lent, back: contracts. By an AI agent.
-/
import Derived.Test.YtfjcbodkjjmagaaText
import Derived.Test.YtfjcbodkjjmagaaProg
import Derived.Outline
import Derived.Deep.QuietTactic
import Derived.BigQuiet
import Derived.Laws.MakeOwn
import Derived.Laws.CopyOwn
namespace Go.Proofs.Ytfjcbodkjjmagaa
open Go.RowKit
set_option maxRecDepth 100000

theorem strAt {w : World} {b o : Nat} {ls : List (List UInt8)} (h : At w (some ⟨b, o, none⟩) (ls.map strV)) {k : Nat} (hk : k < ls.length) : w.cell? ⟨b, o + k, none⟩ = some (.string (B ls[k])) := by
  have := h.get (j := k) (by simpa using hk)
  rw [this]
  simp [strV]

set_option maxHeartbeats 400000 in
/-- two slices that hold the same texts are told to be the same -/
theorem sameTexts_yes (ls : List (List UInt8)) (a1 a2 : Option Addr) (c1 c2 : Nat) (w : World) (hn : ls.length ≤ maxLen) (h1 : At w a1 (ls.map strV)) (h2 : At w a2 (ls.map strV)) :
    Calls Try.prog 17 #[.slice a1 ls.length c1, .slice a2 ls.length c2] w fun e w' => e = .returned (.bool true) ∧ ∃ n, w' = w.drewN n := by
  unfold maxLen at hn
  have H1 := Lib.hid h1
  have H2 := Lib.hid h2
  clear h1 h2
  go_enter Try.func17, Try.ntmps17
  go_wp2
  go_loopw [5] (fun i wr => ∃ k n : Nat, k ≤ ls.length ∧ i = .int .i64 k ∧ wr = w.drewN n) (fun i _ => ls.length - (intOf i).toNat)
  case atStart => exact ⟨0, 0, Nat.zero_le _, rfl, rfl⟩
  case round =>
    obtain ⟨k, n, hk, rfl, rfl⟩ := hrel
    by_cases hlt : k < ls.length
    · obtain ⟨b1, o1, rfl⟩ := H1.out.place (by simp; omega)
      obtain ⟨b2, o2, rfl⟩ := H2.out.place (by simp; omega)
      have hc1 := strAt H1.out hlt
      have hc2 := strAt H2.out hlt
      go_wp2
      go_quiet (fail)
      go_wp2
      go_roundw
      case rel => exact ⟨k + 1, _, by omega, by go_num, rfl⟩
      case measure => simp [intOf]; omega
    · go_wp2
      go_ret
      exact ⟨rfl, n, rfl⟩

def holder : List UInt8 := [45, 104, 111, 108, 100, 101, 114, 45]
theorem strSize : (Try.prog.info? 9).map (·.size) = some 1 := by kernel_rfl
theorem infoStr' : (Try.prog.info? 9).map (fun i => (i.zero, i.size, i.bytes)) = some (some (.string ⟨#[]⟩), 1, 16) := by kernel_rfl

/-- lent texts: in memory of their own, with their holder's behind the end -/
def Lent (w : World) (base : Nat) (v : Value) (ls : List (List UInt8)) : Prop := ∃ g, base ≤ g ∧ v = .slice (some ⟨g, 0, none⟩) ls.length (ls.length + 1) ∧ At w (some ⟨g, 0, none⟩) ((ls ++ [holder]).map strV)
theorem Lent.below {w w' : World} {base : Nat} {v : Value} {ls : List (List UInt8)} (h : Lent w base v ls) (hb : Below w.heap.size w w') : Lent w' base v ls := by
  obtain ⟨g, hg, hv, ha⟩ := h
  exact ⟨g, hg, hv, ha.below hb⟩

theorem lent_cells (ls : List (List UInt8)) : (splice (List.replicate (ls.length + 1) (Value.string ⟨#[]⟩)) 0 (ls.map strV)).set ls.length (strV holder) = (ls ++ [holder]).map strV := by
  unfold splice
  simp only [List.take_zero, List.nil_append, Nat.zero_add, List.length_map, List.drop_replicate]
  rw [show ls.length + 1 - ls.length = 1 by omega, List.set_append_right _ _ (by simp)]
  simp
set_option maxHeartbeats 400000 in
theorem lent_any (ls : List (List UInt8)) (a : Option Addr) (c : Nat) (w : World) (hn : ls.length ≤ 8796093022207) (h1 : At w a (ls.map strV)) :
    Calls Try.prog 5 #[.slice a ls.length c] w fun e w' => ∃ v, e = .returned v ∧ Lent w' w.heap.size v ls ∧ Below w.heap.size w w' := by
  obtain ⟨i0, hi, hz0, hz1, hz2⟩ := info_parts infoStr'
  have hmk : ∀ u : World, (Instr.makeSlice 22 (.int .i64 ((ls.length : Int) + 1)) (.int .i64 ((ls.length : Int) + 1))).run Try.prog u =
      .ok (.slice (some ⟨u.heap.size, 0, none⟩) (ls.length + 1) (ls.length + 1)) (u.alloc (.cells (madeCells #[.string ⟨#[]⟩] (ls.length + 1)) 9)) := fun u => by
    have h := run_make (P := Try.prog) u 22 9 i0 (.string ⟨#[]⟩) Try.underlying22 hi hz0 .i64 .i64 ((ls.length : Int) + 1) ((ls.length : Int) + 1) (by omega) (Int.le_refl _) (by rw [hz2]; omega) (by omega)
    have e : ((ls.length : Int) + 1).toNat = ls.length + 1 := by omega
    rw [e] at h
    simpa [hz1, Value.cells] using h
  have F1 : (w.alloc (.cells (madeCells #[.string ⟨#[]⟩] (ls.length + 1)) 9)).heap[w.heap.size]? = some (.cells (List.replicate (ls.length + 1) (Value.string ⟨#[]⟩)).toArray 9 (0, 0)) := by
    rw [heap_alloc_new, ← toList_madeCells_one, Array.toArray_toList]
  have F2 : (ls.map strV).length = Nat.min ls.length (ls.length + 1) := by rw [List.length_map]; exact (Nat.min_eq_left (by omega)).symm
  have F3 : 0 < (ls.map strV).length → some (⟨w.heap.size, 0, none⟩ : Addr) = some ⟨w.heap.size, 0, none⟩ ∧ ∃ ad, a = some ad ∧ ∀ j v, (ls.map strV)[j]? = some v → (w.alloc (.cells (madeCells #[.string ⟨#[]⟩] (ls.length + 1)) 9)).cell? (ad.add j) = some v := by
    intro hp
    obtain ⟨b, o, rfl⟩ := h1.place hp
    refine ⟨rfl, ⟨b, o, none⟩, rfl, fun j v hj => ?_⟩
    have hj' : j < (ls.map strV).length := (List.getElem?_eq_some_iff.1 hj).1
    rw [addO]
    have := h1.get hj'
    rw [World.cell?_alloc_lt _ _ _ (World.block_lt_of_cell? _ _ this), this, ← hj, List.getElem?_eq_getElem hj']
  have F4 : 0 + (ls.map strV).length ≤ (List.replicate (ls.length + 1) (Value.string ⟨#[]⟩)).length := by simp
  have F5 : ∀ v ∈ ls.map strV, v.oneCell' = true := by intro v hv; obtain ⟨l, _, rfl⟩ := List.mem_map.1 hv; rfl
  have G1 := Lib.hid F1; have G2 := Lib.hid F2; have G3 := Lib.hid F3; have G4 := Lib.hid F4; have G5 := Lib.hid F5
  clear h1 F1 F2 F3 F4 F5
  go_enter Try.func5, Try.ntmps5
  go_wp2_with (with_reducible refine wpList_copy_splice rfl (.tmp 8) (.tmp 9) 22 22 rfl 9 Try.underlying22 strSize (some ⟨w.heap.size, 0, none⟩) a (ls.length + 1) (ls.length + 1) ls.length c rfl rfl w.heap.size 0 (List.replicate (ls.length + 1) (.string ⟨#[]⟩)) 9 G1.out (ls.map strV) G2.out G3.out G4.out G5.out w.heap.size w ((Below.refl _ _).alloc (Nat.le_refl _) _) (Nat.le_refl _) ?_)
  intro w1 hg1 hb1
  have hr := rowAt_of_heap hg1.out
  have hc := hr.cell (j := ls.length) (by simp [splice])
  have hf := hr.free (j := ls.length) (by simp [splice])
  go_wp2_with fail
  go_ret
  have hs := lent_cells ls
  refine ⟨_, rfl, ⟨w.heap.size, Nat.le_refl _, rfl, ?_⟩, hb1.setCell (Nat.le_refl _) _⟩
  rw [← hs]
  exact (hr.set (by simp [splice]) _).at

set_option maxHeartbeats 400000 in
/-- what was lent and is still there reads back -/
theorem back_yes (ls : List (List UInt8)) (v : Value) (base : Nat) (a2 : Option Addr) (c2 : Nat) (w : World) (hn : ls.length ≤ 8796093022207) (h1 : Lent w base v ls) (h2 : At w a2 (ls.map strV)) :
    Calls Try.prog 8 #[v, .slice a2 ls.length c2] w fun e w' => e = .returned (.bool true) ∧ ∃ n, w' = w.drewN n := by
  obtain ⟨g, _, rfl, ha⟩ := h1
  have hx : At w (some ⟨g, 0, none⟩) (ls.map strV) := by have := ha.take ls.length; rw [List.map_append, List.take_left' (by simp)] at this; exact this
  have hc := strAt ha (k := ls.length) (by simp)
  rw [List.getElem_append_right (Nat.le_refl _)] at hc
  simp only [Nat.sub_self, List.getElem_cons_zero, Nat.zero_add] at hc
  have H1 := Lib.hid hx; have H2 := Lib.hid h2
  clear ha hx h2
  go_enter Try.func8, Try.ntmps8
  go_wp2_with (go_at_call 17; refine (sameTexts_yes ls _ _ _ _ _ (by unfold maxLen; omega) H1.out H2.out).mono ?_; rintro e w1 ⟨rfl, n, rfl⟩)
  go_ret
  exact ⟨rfl, n, rfl⟩
end Go.Proofs.Ytfjcbodkjjmagaa
