/-
  names.tagReader's sees, at each of its tests: contracts. By an AI agent.
-/
import Derived.Test.YtfjcbodkjjmagaaDoorReader
namespace Go.Proofs.YtfjcbodkjjmagaaDoor
open Go.RowKit
set_option maxRecDepth 100000

/-- is the next part such a one? -/
def seesF (f : List UInt8 → Bool) : List (List UInt8) → Bool
  | [] => false
  | p :: _ => f p

set_option maxHeartbeats 800000 in
theorem sees_priv (b k : Nat) (ps : List (List UInt8)) (lv : Value) (fs : List Value) (w : World) (hv : ViewAt w k lv ps) (hR : RowAt w b (lv :: fs)) (hp : ∀ p ∈ ps, p.length ≤ 140737488351232) :
    Calls Tryd.prog 65 #[.pointer (some ⟨b, 0, none⟩), .func (.func 66) #[] #[]] w fun e w' => e = .returned (.bool (seesF (privB) ps)) ∧ Below w.heap.size w w' := by
  have c0 := hR.cell (j := 0) (by simp)
  simp only [List.getElem_cons_zero] at c0
  rcases ps with _ | ⟨p, ps⟩
  · obtain ⟨o, cap, rfl⟩ := hv.empty
    clear hv hR hp
    go_enter Tryd.func65, Tryd.ntmps65
    go_wp2_with fail
    go_ret
    exact ⟨rfl, Below.refl _ _⟩
  · obtain ⟨o, cap, rfl, hcc, hd, _⟩ := hv.cons
    have CL := Lib.hid (private_l p w)
    clear hv hR hp
    go_enter Tryd.func65, Tryd.ntmps65
    go_wp2_with (go_at_call 66; (with_reducible refine CL.out.mono ?_); rintro e w1 ⟨rfl, rfl⟩)
    go_ret
    exact ⟨rfl, Below.refl _ _⟩

set_option maxHeartbeats 800000 in
theorem sees_variant (b k : Nat) (ps : List (List UInt8)) (lv : Value) (fs : List Value) (w : World) (hv : ViewAt w k lv ps) (hR : RowAt w b (lv :: fs)) (hp : ∀ p ∈ ps, p.length ≤ 140737488351232) :
    Calls Tryd.prog 65 #[.pointer (some ⟨b, 0, none⟩), .func (.func 109) #[] #[]] w fun e w' => e = .returned (.bool (seesF (variantB) ps)) ∧ Below w.heap.size w w' := by
  have c0 := hR.cell (j := 0) (by simp)
  simp only [List.getElem_cons_zero] at c0
  rcases ps with _ | ⟨p, ps⟩
  · obtain ⟨o, cap, rfl⟩ := hv.empty
    clear hv hR hp
    go_enter Tryd.func65, Tryd.ntmps65
    go_wp2_with fail
    go_ret
    exact ⟨rfl, Below.refl _ _⟩
  · obtain ⟨o, cap, rfl, hcc, hd, _⟩ := hv.cons
    have CL := Lib.hid (variant_l p w (hp p (by simp)))
    clear hv hR hp
    go_enter Tryd.func65, Tryd.ntmps65
    go_wp2_with (go_at_call 109; (with_reducible refine CL.out.mono ?_); rintro e w1 ⟨rfl, hb1⟩)
    go_ret
    exact ⟨rfl, hb1⟩

set_option maxHeartbeats 800000 in
theorem sees_region (b k : Nat) (ps : List (List UInt8)) (lv : Value) (fs : List Value) (w : World) (hv : ViewAt w k lv ps) (hR : RowAt w b (lv :: fs)) (hp : ∀ p ∈ ps, p.length ≤ 140737488351232) :
    Calls Tryd.prog 65 #[.pointer (some ⟨b, 0, none⟩), .func (.func 108) #[] #[]] w fun e w' => e = .returned (.bool (seesF (regionB) ps)) ∧ Below w.heap.size w w' := by
  have c0 := hR.cell (j := 0) (by simp)
  simp only [List.getElem_cons_zero] at c0
  rcases ps with _ | ⟨p, ps⟩
  · obtain ⟨o, cap, rfl⟩ := hv.empty
    clear hv hR hp
    go_enter Tryd.func65, Tryd.ntmps65
    go_wp2_with fail
    go_ret
    exact ⟨rfl, Below.refl _ _⟩
  · obtain ⟨o, cap, rfl, hcc, hd, _⟩ := hv.cons
    have CL := Lib.hid (region_l p w (hp p (by simp)))
    clear hv hR hp
    go_enter Tryd.func65, Tryd.ntmps65
    go_wp2_with (go_at_call 108; (with_reducible refine CL.out.mono ?_); rintro e w1 ⟨rfl, hb1⟩)
    go_ret
    exact ⟨rfl, hb1⟩

set_option maxHeartbeats 800000 in
theorem sees_lang1 (b k : Nat) (ps : List (List UInt8)) (lv : Value) (fs : List Value) (w : World) (hv : ViewAt w k lv ps) (hR : RowAt w b (lv :: fs)) (hp : ∀ p ∈ ps, p.length ≤ 140737488351232) :
    Calls Tryd.prog 65 #[.pointer (some ⟨b, 0, none⟩), .func (.func 104) #[] #[]] w fun e w' => e = .returned (.bool (seesF (fun p => madeB p 2 8 true) ps)) ∧ Below w.heap.size w w' := by
  have c0 := hR.cell (j := 0) (by simp)
  simp only [List.getElem_cons_zero] at c0
  rcases ps with _ | ⟨p, ps⟩
  · obtain ⟨o, cap, rfl⟩ := hv.empty
    clear hv hR hp
    go_enter Tryd.func65, Tryd.ntmps65
    go_wp2_with fail
    go_ret
    exact ⟨rfl, Below.refl _ _⟩
  · obtain ⟨o, cap, rfl, hcc, hd, _⟩ := hv.cons
    have CL := Lib.hid (lang1_l p w (hp p (by simp)))
    clear hv hR hp
    go_enter Tryd.func65, Tryd.ntmps65
    go_wp2_with (go_at_call 104; (with_reducible refine CL.out.mono ?_); rintro e w1 ⟨rfl, hb1⟩)
    go_ret
    exact ⟨rfl, hb1⟩

set_option maxHeartbeats 800000 in
theorem sees_lang2 (b k : Nat) (ps : List (List UInt8)) (lv : Value) (fs : List Value) (w : World) (hv : ViewAt w k lv ps) (hR : RowAt w b (lv :: fs)) (hp : ∀ p ∈ ps, p.length ≤ 140737488351232) :
    Calls Tryd.prog 65 #[.pointer (some ⟨b, 0, none⟩), .func (.func 106) #[] #[]] w fun e w' => e = .returned (.bool (seesF (fun p => madeB p 3 3 true) ps)) ∧ Below w.heap.size w w' := by
  have c0 := hR.cell (j := 0) (by simp)
  simp only [List.getElem_cons_zero] at c0
  rcases ps with _ | ⟨p, ps⟩
  · obtain ⟨o, cap, rfl⟩ := hv.empty
    clear hv hR hp
    go_enter Tryd.func65, Tryd.ntmps65
    go_wp2_with fail
    go_ret
    exact ⟨rfl, Below.refl _ _⟩
  · obtain ⟨o, cap, rfl, hcc, hd, _⟩ := hv.cons
    have CL := Lib.hid (lang2_l p w (hp p (by simp)))
    clear hv hR hp
    go_enter Tryd.func65, Tryd.ntmps65
    go_wp2_with (go_at_call 106; (with_reducible refine CL.out.mono ?_); rintro e w1 ⟨rfl, hb1⟩)
    go_ret
    exact ⟨rfl, hb1⟩

set_option maxHeartbeats 800000 in
theorem sees_rest1 (b k : Nat) (ps : List (List UInt8)) (lv : Value) (fs : List Value) (w : World) (hv : ViewAt w k lv ps) (hR : RowAt w b (lv :: fs)) (hp : ∀ p ∈ ps, p.length ≤ 140737488351232) :
    Calls Tryd.prog 65 #[.pointer (some ⟨b, 0, none⟩), .func (.func 107) #[] #[]] w fun e w' => e = .returned (.bool (seesF (fun p => madeB p 4 4 true) ps)) ∧ Below w.heap.size w w' := by
  have c0 := hR.cell (j := 0) (by simp)
  simp only [List.getElem_cons_zero] at c0
  rcases ps with _ | ⟨p, ps⟩
  · obtain ⟨o, cap, rfl⟩ := hv.empty
    clear hv hR hp
    go_enter Tryd.func65, Tryd.ntmps65
    go_wp2_with fail
    go_ret
    exact ⟨rfl, Below.refl _ _⟩
  · obtain ⟨o, cap, rfl, hcc, hd, _⟩ := hv.cons
    have CL := Lib.hid (rest1_l p w (hp p (by simp)))
    clear hv hR hp
    go_enter Tryd.func65, Tryd.ntmps65
    go_wp2_with (go_at_call 107; (with_reducible refine CL.out.mono ?_); rintro e w1 ⟨rfl, hb1⟩)
    go_ret
    exact ⟨rfl, hb1⟩

set_option maxHeartbeats 800000 in
theorem sees_rest2 (b k : Nat) (ps : List (List UInt8)) (lv : Value) (fs : List Value) (w : World) (hv : ViewAt w k lv ps) (hR : RowAt w b (lv :: fs)) (hp : ∀ p ∈ ps, p.length ≤ 140737488351232) :
    Calls Tryd.prog 65 #[.pointer (some ⟨b, 0, none⟩), .func (.func 111) #[] #[]] w fun e w' => e = .returned (.bool (seesF (fun p => madeB p 1 1 false && !privB p) ps)) ∧ Below w.heap.size w w' := by
  have c0 := hR.cell (j := 0) (by simp)
  simp only [List.getElem_cons_zero] at c0
  rcases ps with _ | ⟨p, ps⟩
  · obtain ⟨o, cap, rfl⟩ := hv.empty
    clear hv hR hp
    go_enter Tryd.func65, Tryd.ntmps65
    go_wp2_with fail
    go_ret
    exact ⟨rfl, Below.refl _ _⟩
  · obtain ⟨o, cap, rfl, hcc, hd, _⟩ := hv.cons
    have CL := Lib.hid (rest2_l p w (hp p (by simp)))
    clear hv hR hp
    go_enter Tryd.func65, Tryd.ntmps65
    go_wp2_with (go_at_call 111; (with_reducible refine CL.out.mono ?_); rintro e w1 ⟨rfl, hb1⟩)
    go_ret
    exact ⟨rfl, hb1⟩

set_option maxHeartbeats 800000 in
theorem sees_tail1 (b k : Nat) (ps : List (List UInt8)) (lv : Value) (fs : List Value) (w : World) (lo c : Nat) (hlo : lo ≤ 1000) (hcl : w.cell? ⟨c, 0, none⟩ = some (.int .i64 (lo : Int))) (hv : ViewAt w k lv ps) (hR : RowAt w b (lv :: fs)) (hp : ∀ p ∈ ps, p.length ≤ 140737488351232) :
    Calls Tryd.prog 65 #[.pointer (some ⟨b, 0, none⟩), .func (.func 112) #[] #[.pointer (some ⟨c, 0, none⟩)]] w fun e w' => e = .returned (.bool (seesF (fun p => madeB p lo 8 false) ps)) ∧ Below w.heap.size w w' := by
  have c0 := hR.cell (j := 0) (by simp)
  simp only [List.getElem_cons_zero] at c0
  rcases ps with _ | ⟨p, ps⟩
  · obtain ⟨o, cap, rfl⟩ := hv.empty
    clear hv hR hp
    go_enter Tryd.func65, Tryd.ntmps65
    go_wp2_with fail
    go_ret
    exact ⟨rfl, Below.refl _ _⟩
  · obtain ⟨o, cap, rfl, hcc, hd, _⟩ := hv.cons
    have CL := Lib.hid (tail1_l p lo c w (hp p (by simp)) hlo hcl)
    clear hv hR hp
    go_enter Tryd.func65, Tryd.ntmps65
    go_wp2_with (go_at_call 112; (with_reducible refine CL.out.mono ?_); rintro e w1 ⟨rfl, hb1⟩)
    go_ret
    exact ⟨rfl, hb1⟩

end Go.Proofs.YtfjcbodkjjmagaaDoor
