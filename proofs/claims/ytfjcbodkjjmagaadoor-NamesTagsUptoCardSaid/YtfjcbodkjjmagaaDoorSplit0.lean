/-
  What the library's Split gives at a hyphen is the text's parts. No program in sight. By an AI agent.
-/
import Derived.Test.YtfjcbodkjjmagaaDoorText
import Derived.Lib.Split
import Derived.Lib.SplitLaws
namespace Go.Proofs.YtfjcbodkjjmagaaDoor
open Go.RowKit
set_option maxRecDepth 100000

theorem index_cut : ∀ (a b : List UInt8), (∀ c ∈ a, c ≠ 45) → Lib.index (a ++ 45 :: b) [45] = (a.length : Int)
  | [], b, _ => by rw [List.nil_append, Lib.index]; simp [List.isPrefixOf]
  | c :: r, b, h => by
    have hr := index_cut r b (fun x hx => h x (List.mem_cons_of_mem _ hx))
    have hc : ((45 : UInt8) == c) = false := beq_eq_false_iff_ne.2 (fun e => h c (List.mem_cons_self ..) e.symm)
    rw [List.cons_append, Lib.index, hr]
    have hp : ([45] : List UInt8).isPrefixOf (c :: (r ++ 45 :: b)) = false := by simp [List.isPrefixOf, hc]
    rw [hp]
    have hn : ((r.length : Int) == -1) = false := beq_eq_false_iff_ne.2 (by omega)
    simp [hn]
theorem hyphen_or : ∀ (l : List UInt8), (∀ c ∈ l, c ≠ 45) ∨ ∃ a b, l = a ++ 45 :: b ∧ (∀ c ∈ a, c ≠ 45)
  | [] => .inl (fun c h => by cases h)
  | c :: r => by
    by_cases hc : c = 45
    · exact .inr ⟨[], r, by rw [hc]; rfl, fun x h => by cases h⟩
    · rcases hyphen_or r with h | ⟨a, b, he, h⟩
      · exact .inl (fun x hx => by rcases List.mem_cons.1 hx with rfl | hx; exact hc; exact h x hx)
      · exact .inr ⟨c :: a, b, by rw [he]; rfl, fun x hx => by rcases List.mem_cons.1 hx with rfl | hx; exact hc; exact h x hx⟩
theorem splitK_parts : ∀ (k : Nat) (l : List UInt8), l.count 45 = k → Lib.splitK [45] 0 k l = partsOf l
  | 0, l, h => by
    have hn : ∀ c ∈ l, c ≠ 45 := fun c hc e => by
      subst e
      have := List.count_pos_iff.2 hc
      omega
    rw [Lib.splitK, partsOf_plain l hn]
  | k + 1, l, h => by
    rcases hyphen_or l with hn | ⟨a, b, rfl, hn⟩
    · exfalso
      have : l.count 45 = 0 := List.count_eq_zero.2 (fun hm => hn 45 hm rfl)
      omega
    · have ha : a.count 45 = 0 := List.count_eq_zero.2 (fun hm => hn 45 hm rfl)
      have hb : b.count 45 = k := by
        rw [List.count_append, ha, List.count_cons_self] at h
        omega
      rw [Lib.splitK, index_cut a b hn, partsOf_cut a b hn, ← splitK_parts k b hb]
      have hne : ((a.length : Int) == -1) = false := beq_eq_false_iff_ne.2 (by omega)
      rw [hne]
      simp
theorem split_parts (l : List UInt8) : (Lib.splitB ⟨#[45]⟩ 0 (Lib.countB (B l) ⟨#[45]⟩) (B l)).map Value.string = (partsOf l).map strV ∧ Lib.countB (B l) ⟨#[45]⟩ + 1 = (partsOf l).length := by
  have hc : Lib.countB (B l) ⟨#[45]⟩ = l.count 45 := by
    show Lib.count (B l).data.toList [45] = _
    rw [B_toList, Lib.count_one]
  have hd := Lib.splitB_data ⟨#[45]⟩ 0 (Lib.countB (B l) ⟨#[45]⟩) (B l)
  rw [B_toList, hc] at hd
  have hk : (Lib.splitB ⟨#[45]⟩ 0 (l.count 45) (B l)).map (·.data.toList) = partsOf l := hd.trans (splitK_parts _ l rfl)
  rw [hc]
  refine ⟨?_, ?_⟩
  · rw [← hk, List.map_map]
    apply List.map_congr_left
    intro x _
    simp [strV, B_of]
  · have h2 := Lib.splitB_all ⟨#[45]⟩ (by decide) 0 (l.count 45) (B l) hc
    rw [← h2, ← hk, List.length_map]
end Go.Proofs.YtfjcbodkjjmagaaDoor
