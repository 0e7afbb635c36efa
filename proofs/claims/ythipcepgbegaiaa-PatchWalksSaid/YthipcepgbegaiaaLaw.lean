/-
  What every law's proof ends with: the call returned true, and below the heap's old size nothing has turned: then the row's post holds. No program in sight. By an AI agent.
-/
import Derived.ProofKit
import Derived.Carry
import Derived.SliceStrings
import Derived.JoinedCond
import Derived.OpenShut
import Derived.Test.YthipcepgbegaiaaGPlain
namespace Go.Proofs.Ythipcepgbegaiaa
open Go.ChangeShapes Go.WideShapes Go.ChangeAt Go.RowKit

theorem trodAll_later {H : Type} {enc : TypeId × Value → H} {P : Program} (hl : laidOutB P = true) {W W' : World} (hb : Below W.heap.size W W') :
    ∀ {ts : List TypeId} {vs : List Value} {ds : List (DataW H)} {ps : List MemPlace}, (∀ t ∈ ts, P.readableRec t = true ∧ t < P.types.size) → (∀ x ∈ ps, x.block < W.heap.size) →
      DataW.TrodAll enc P W 0 (fun _ => true) true ts vs ds ps → DataW.TrodAll enc P W' 0 (fun b => decide (b < W.heap.size)) true ts vs ds ps
  | [], vs, ds, ps, _, _, h => by
    obtain ⟨rfl, rfl, rfl⟩ := trodAll_nil h
    exact trodAll_mk0
  | t :: ts, vs, ds, ps, ht, hlt, h => by
    obtain ⟨v, vs', d, ds', p, q, rfl, rfl, rfl, h0, h1⟩ := trodAll_cons h
    exact trodAll_cons_mk (Below.trod hl (ht t (by simp)).1 (ht t (by simp)).2 h0 hb (fun x hx => hlt x (by simp [hx])))
      (trodAll_later hl hb (fun u hu => ht u (by simp [hu])) (fun x hx => hlt x (by simp [hx])) h1)

theorem law_post {H : Type} {enc : TypeId × Value → H} {P : Program} {f : Func} {s : ChangeSpec} {T : TypeId} {W W' : World} {args : Array Value} {ds gs : List (DataW H)} {before : List MemPlace} (hl : laidOutB P = true) (hT : P.underlying T = some .bool)
    (hr : f.resultTypes = #[T]) (ht : ∀ t ∈ f.params.toList, P.readableRec t = true ∧ t < P.types.size) (hv : s.vars = []) (hfn : s.fn H (ds ++ gs) = { results := [.lit (.bool true)], args := ds })
    (hW : DataW.Whole enc P f.params.toList s.vars false W args.toList ds gs before) (hb : Below W.heap.size W W') : s.post enc P f false true false false W args (.bool true) W' := by
  have hlt := hW.lt
  have hW' := hW
  obtain ⟨p, q, hA, hV, rfl, _, _⟩ := hW'
  rw [hv] at hV
  obtain ⟨rfl, rfl⟩ := trodVars_none hV
  have hA2 := trodAll_later hl hb ht (fun x hx => by simpa using hlt x (by simp [hx])) hA
  refine ⟨ds, [], _, [], p, [], hW, ?_, ?_, ?_, hb.frame _, fun h => by cases h⟩
  · rw [hfn, hr]
    exact trodAll_mk1 (shut_bool hT _)
  · rw [hfn]
    exact hA2
  · rw [hfn, hv]
    exact rfl

/-- A []string that came in, as the walks want it. -/
theorem open_texts {H : Type} {enc : TypeId × Value → H} {P : Program} {W : World} {T S : TypeId} {v : Value} {d : DataW H} {ps : List MemPlace} (hT : P.underlying T = some (.slice S)) (hS : P.underlying S = some .string) (hc : P.cellsOf S = 1)
    (hv : Value.okWide P W .any 0 T v) (h : DataW.Trod enc P W 0 (fun _ => true) true T v d ps) :
    ∃ (a : Option Addr) (c : Nat) (ls : List (List UInt8)), v = .slice a ls.length c ∧ At W a (ls.map strV) ∧ ((d = .nil ∧ ls = []) ∨ ∃ rest, d = .slice (ls.map fun l => .lit (.string l)) rest) := by
  obtain ⟨a0, len, cap, rfl⟩ := okWide_slice hT hv
  obtain ⟨fuel, hf⟩ := h
  rcases open_strings hT hS hc hf with ⟨hcs, hx⟩ | ⟨a, len', cap', ss, hcs, _, hl, hm, hz, hx, hcell, _⟩
  · simp [Value.cells] at hcs
    obtain ⟨rfl, rfl, rfl⟩ := hcs
    cases hx
    exact ⟨none, 0, [], rfl, At.nil _ _, .inl ⟨rfl, rfl⟩⟩
  · simp [Value.cells] at hcs
    obtain ⟨rfl, rfl, rfl⟩ := hcs
    cases hx
    simp only [if_true] at hz
    have hlen : ((ss.take len).map (·.data.toList)).length = len := by simp; omega
    refine ⟨some a, cap, (ss.take len).map (·.data.toList), by rw [hlen], fun j hj => ?_, .inr ⟨strs (ss.drop len), by simp [strs, Function.comp_def]⟩⟩
    rw [List.length_map, hlen] at hj
    obtain ⟨b, off, spot⟩ := a
    have hcj := hcell j (by omega)
    have hspot : spot = none := by simpa [Addr.add] using World.cell?_spot (hcell 0 (by omega))
    subst hspot
    refine ⟨b, off, rfl, ?_⟩
    rw [← addO, hcj]
    have hjs : j < ss.length := by omega
    simp [strV, List.getD, List.getElem?_eq_getElem hjs, B_of]
end Go.Proofs.Ythipcepgbegaiaa
