/-
  Proved here: PatchWalks returns true whatever the patch and the two numbers. Condition: none of our own (the first form; each slice that is read takes at most the form's own reach).
  By an AI agent.
-/
import Derived.Test.YthipcepgbegaiaaWalks2
import Derived.Test.YthipcepgbegaiaaQuadD
import Derived.Test.YthipcepgbegaiaaLaw
import Derived.SizedLaws
import Derived.Lib.SmallJoins
namespace Go.Proofs.Ythipcepgbegaiaa.patchWalks
open Go.ChangeShapes Go.WideShapes Go.ChangeAt Go.RowKit Go.Joins Go.Deep
set_option maxRecDepth 100000

theorem own : ownKnob Try.prog.godebug = none := by kernel_rfl
theorem laidOut : laidOutB Try.prog = true := by kernel_rfl
theorem bytesQ : Try.prog.bytesOf 31 = 224 := by kernel_rfl
theorem sized_quads {H : Type} {d : DataW H} {l : List QuadL} {ts : List TypeId} {ds : List (DataW H)} {j : Nat} (h : (DataW.weightsEach Try.prog ts ds).all (· ≤ reachBytes) = true) (ht : ts[j]? = some 22) (hd : ds[j]? = some d) (hq : QuadsD d l) : l.length ≤ 1152921504606846976 := by
  rcases hq with ⟨rfl, rfl⟩ | ⟨rest, rfl⟩
  · simp
  · have := sized_slice h ht hd Try.underlying22
    rw [bytesQ, List.length_map] at this
    have h2 := reachBytes_lt
    omega
theorem contract (H : Type) (enc : TypeId × Value → H) (W : World) (base : Nat) (args : Array Value) (ds gs : List (DataW H)) (before : List MemPlace)
    (hval : ∀ (j : Nat) t v, Try.f3.params[j]? = some t → args[j]? = some v → Value.okWide Try.prog W .any base t v)
    (hW : DataW.Whole enc Try.prog Try.f3.params.toList Rows.patchWalksSpec.vars false W args.toList ds gs before)
    (hsz0 : (DataW.weightsEach Try.prog (Try.f3.params.toList ++ Rows.patchWalksSpec.plain.varTypes Try.prog) (ds ++ gs)).all (· ≤ reachBytes) = true) :
    Calls Try.prog 3 args W fun e W' => ∃ v, e = .returned v ∧ Rows.patchWalksSpec.post enc Try.prog Try.f3 false true false false W args v W' := by
  have hW' := hW
  obtain ⟨p, q, hA0, hV, rfl, hfz, hnd⟩ := hW
  have hA : DataW.TrodAll enc Try.prog W 0 (fun _ => true) true Try.f3.params.toList args.toList ds p := hA0
  have hsz : (DataW.weightsEach Try.prog (Try.f3.params.toList ++ Rows.patchWalksSpec.plain.varTypes Try.prog) (ds ++ gs)).all (· ≤ reachBytes) = true := hsz0
  rw [Try.params3] at hA hval hsz
  obtain ⟨v0, vs0, d0, ds0, p0, q0, hargs, rfl, rfl, h0, r0⟩ := trodAll_cons hA
  obtain ⟨v1, vs1, d1, ds1, p1, q1, rfl, rfl, rfl, h1, r1⟩ := trodAll_cons r0
  obtain ⟨v2, vs2, d2, ds2, p2, q2, rfl, rfl, rfl, h2, r2⟩ := trodAll_cons r1
  obtain ⟨rfl, rfl, rfl⟩ := trodAll_nil r2
  obtain rfl : args = #[v0, v1, v2] := by cases args; simp_all
  obtain ⟨rfl, rfl⟩ := trodVars_none hV
  obtain ⟨x0, x1, y0, y1, n, rfl, rfl, rfl, t0, t1⟩ := open_agg2 Try.underlying24 (by kernel_rfl) (by kernel_rfl) (hval 0 24 v0 rfl rfl) h0
  obtain ⟨mv, lm, e0, hq0, hd0⟩ := quads_of_trod t0
  obtain ⟨pv, lp, e1, hq1, hd1⟩ := quads_of_trod t1
  cases e0
  cases e1
  obtain ⟨st, rfl, rfl, rfl, wst⟩ := open_int Try.underlying3 (hval 1 3 v1 rfl rfl) h1
  obtain ⟨inn, rfl, rfl, rfl, winn⟩ := open_int Try.underlying3 (hval 2 3 v2 rfl rfl) h2
  have hw : (DataW.weightsEach Try.prog [22, 22] [y0.1, y1.1]).all (· ≤ reachBytes) = true := by
    refine List.all_eq_true.2 fun k hk => ?_
    refine List.all_eq_true.1 hsz k (DataW.weights_mem_each (j := 0) (t := 24) (d := .agg [y0.1, y1.1]) rfl rfl k ?_)
    have hu := Try.underlying24
    simp only [DataW.weights, hu]
    exact hk
  have hl0 := sized_quads hw (j := 0) rfl rfl hd0
  have hl1 := sized_quads hw (j := 1) rfl rfl hd1
  obtain ⟨a0, c0, rfl, _, _⟩ := id hq0
  obtain ⟨a1, c1, rfl, _, _⟩ := id hq1
  refine (walks_l ⟨lm, lp⟩ a0 a1 c0 c1 st inn W ⟨hq0, hq1⟩ ⟨hl0, hl1⟩ (bounds_i64 wst)).mono fun e W' ⟨he, hg⟩ => ?_
  subst he
  exact ⟨_, rfl, law_post laidOut Try.underlying4 rfl (by rw [Try.params3]; exact of_decide_eq_true (by kernel_rfl)) rfl rfl hW' hg⟩
theorem lifted (os : Os) (started : os.Started) (H : Type) (enc : TypeId × Value → H) :
    ReturnsInHanded {} Try.checked os 3 .any (Rows.patchWalksSpec.pre6 enc Try.prog Try.f3 Rows.patchWalksRow.domain false) (Rows.patchWalksSpec.post enc Try.prog Try.f3 false true false false) := by
  refine returnsInHanded_of_change_sized (C := Try.checked) own started (by kernel_rfl) Try.func3
    (ChangeSpec.witness6 (enc := enc) (C := Try.checked) false ⟨#[], #[.agg #[.slice none 0 0, .slice none 0 0], .int .i64 0, .int .i64 0], []⟩ 8 (by kernel_rfl) (by kernel_rfl) (by kernel_rfl) (by kernel_rfl)) ?_
  intro W base args ds gs before hval hW _ hsz _
  exact contract H enc W base args ds gs before hval hW hsz
theorem proved : Rows.PatchWalksSaid :=
  OpenClaim.holds_of_wide 3 Try.f3 rfl rfl rfl rfl rfl rfl rfl ⟨rfl, rfl, rfl, rfl, rfl⟩ rfl rfl rfl rfl rfl (by kernel_rfl) Try.func3 (by kernel_rfl)
    (of_decide_eq_true (by kernel_rfl)) (by unfold Func.isWrapper; first | (rw [if_pos (by decide +kernel)]; kernel_rfl) | (rw [if_neg (by decide +kernel)]; exact ⟨rfl, rfl⟩))
    (fun os started H enc _ => lifted os started H enc)
end Go.Proofs.Ythipcepgbegaiaa.patchWalks
