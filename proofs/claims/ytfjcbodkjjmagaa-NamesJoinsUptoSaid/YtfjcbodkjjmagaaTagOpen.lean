/-
  An api.Tag that came in, as the walks want it. By an AI agent.
-/
import Derived.Test.YtfjcbodkjjmagaaLaw
import Derived.Test.YtfjcbodkjjmagaaNJoin
import Derived.OpenShut
namespace Go.Proofs.Ytfjcbodkjjmagaa
open Go.ChangeShapes Go.WideShapes Go.ChangeAt Go.RowKit
set_option maxRecDepth 100000
theorem cellsStr1 : Try.prog.cellsOf 9 = 1 := by kernel_rfl
theorem cellsTexts1 : Try.prog.cellsOf 22 = 1 := by kernel_rfl
theorem cellsTag7 : Try.prog.cellsOf 28 = 7 := by kernel_rfl
section
variable {H : Type} {enc : TypeId × Value → H} {W : World}
/-- what a datum says of texts -/
def TextsD (d : DataW H) (ls : List (List UInt8)) : Prop := (d = .nil ∧ ls = []) ∨ ∃ rest, d = .slice (ls.map fun l => .lit (.string l)) rest
theorem texts_of_trod {fuel : Nat} {c : Value} {x : DataW H × List MemPlace} (h : DataW.trod enc Try.prog W 0 (fun _ => true) true fuel 22 [c] = some x) :
    ∃ (a : Option Addr) (cap : Nat) (ls : List (List UInt8)), c = .slice a ls.length cap ∧ At W a (ls.map strV) ∧ (a = none → cap = 0) ∧ TextsD x.1 ls := by
  rcases open_strings Try.underlying22 Try.underlying9 cellsStr1 h with ⟨hcs, hx⟩ | ⟨a, len', cap', ss, hcs, _, hl, hm, hz, hx, hcell, _⟩
  · cases hcs
    subst hx
    exact ⟨none, 0, [], rfl, At.nil _ _, fun _ => rfl, .inl ⟨rfl, rfl⟩⟩
  · cases hcs
    subst hx
    simp only [if_true] at hz
    have hlen : ((ss.take len').map (·.data.toList)).length = len' := by simp; omega
    refine ⟨some a, cap', (ss.take len').map (·.data.toList), by rw [hlen], fun j hj => ?_, (fun h => nomatch h), .inr ⟨strs (ss.drop len'), by simp [strs, Function.comp_def]⟩⟩
    rw [List.length_map, hlen] at hj
    obtain ⟨b, off, spot⟩ := a
    have hcj := hcell j (by omega)
    have hspot : spot = none := by simpa [Addr.add] using World.cell?_spot (hcell 0 (by omega))
    subst hspot
    refine ⟨b, off, rfl, ?_⟩
    rw [← addO, hcj]
    have hjs : j < ss.length := by omega
    simp [strV, List.getD, List.getElem?_eq_getElem hjs, B_of]
theorem seven {α : Type} {l : List α} (h : l.length = 7) : ∃ a b c d e f g, l = [a, b, c, d, e, f, g] := by
  match l, h with
  | [a, b, c, d, e, f, g], _ => exact ⟨a, b, c, d, e, f, g, rfl⟩
theorem str_of_trod {fuel : Nat} {c : Value} {x : DataW H × List MemPlace} (h : DataW.trod enc Try.prog W 0 (fun _ => true) true fuel 9 [c] = some x) : ∃ l, c = .string (B l) ∧ x.1 = .lit (.string l) := by
  obtain ⟨s, hc, hx, _⟩ := DataW.trod_string Try.underlying9 h
  cases hc
  subst hx
  exact ⟨s.data.toList, by rw [B_of], rfl⟩
theorem open_tag {b0 : Nat} {v : Value} {d : DataW H} {ps : List MemPlace} (hv : Value.okWide Try.prog W .any b0 28 v) (h : DataW.Trod enc Try.prog W 0 (fun _ => true) true 28 v d ps) :
    ∃ (t : TagL) (a1 a2 : Option Addr) (c1 c2 : Nat) (dv de : DataW H), v = .agg (tagCells t a1 a2 c1 c2) ∧ At W a1 (t.vars.map strV) ∧ At W a2 (t.exts.map strV) ∧ (a1 = none → c1 = 0) ∧ (a2 = none → c2 = 0) ∧
      d = .agg [.lit (.string t.lang), .lit (.string t.ext), .lit (.string t.script), .lit (.string t.region), dv, de, .lit (.string t.priv)] ∧ TextsD dv t.vars ∧ TextsD de t.exts := by
  obtain ⟨cs, rfl, hcs⟩ := okWide_struct Try.underlying28 hv
  obtain ⟨fuel, hf⟩ := h
  obtain ⟨xs, n, _, hx, _, hlen, hff⟩ := DataW.trod_struct Try.underlying28 hf
  rw [cellsTag7] at hcs
  have hl : (Value.agg cs).cells.toList.length = 7 := by simpa [Value.cells] using hcs
  obtain ⟨v0, v1, v2, v3, v4, v5, v6, hvs⟩ := seven hl
  obtain ⟨y0, y1, y2, y3, y4, y5, y6, rfl⟩ := seven (l := xs) hlen
  rw [hvs] at hff
  have e0 := hff 0 _ rfl
  have e1 := hff 1 _ rfl
  have e2 := hff 2 _ rfl
  have e3 := hff 3 _ rfl
  have e4 := hff 4 _ rfl
  have e5 := hff 5 _ rfl
  have e6 := hff 6 _ rfl
  simp only [List.getElem?_cons_zero, List.getElem?_cons_succ] at e0 e1 e2 e3 e4 e5 e6
  obtain ⟨l0, rfl, x0⟩ := str_of_trod e0
  obtain ⟨l1, rfl, x1⟩ := str_of_trod e1
  obtain ⟨l2, rfl, x2⟩ := str_of_trod e2
  obtain ⟨l3, rfl, x3⟩ := str_of_trod e3
  obtain ⟨a4, c4, l4, rfl, A4, n4, x4⟩ := texts_of_trod e4
  obtain ⟨a5, c5, l5, rfl, A5, n5, x5⟩ := texts_of_trod e5
  obtain ⟨l6, rfl, x6⟩ := str_of_trod e6
  have hcs' : cs = #[.string (B l0), .string (B l1), .string (B l2), .string (B l3), .slice a4 l4.length c4, .slice a5 l5.length c5, .string (B l6)] := by
    have h : cs.toList = _ := hvs
    exact Array.toList_inj.1 (by rw [h])
  refine ⟨⟨l0, l1, l2, l3, l4, l5, l6⟩, a4, a5, c4, c5, y4.1, y5.1, by rw [hcs']; rfl, A4, A5, n4, n5, ?_, x4, x5⟩
  have hd := congrArg Prod.fst hx
  simp only [List.map_cons, List.map_nil, x0, x1, x2, x3, x6] at hd
  exact hd
end
end Go.Proofs.Ytfjcbodkjjmagaa
