/-
  Proved here: NamesJoins returns true whatever the parts. Condition: what comes in is of bulk at most 1048576 (the second form).
  By an AI agent.
-/
import Derived.Test.YtfjcbodkjjmagaaJoinsWalk
import Derived.Test.YtfjcbodkjjmagaaTagOpen
import Derived.Test.YtfjcbodkjjmagaaLaw
import Derived.Test.YtfjcbodkjjmagaaBulk
namespace Go.Proofs.Ytfjcbodkjjmagaa.namesJoins
open Go.ChangeShapes Go.WideShapes Go.ChangeAt Go.RowKit
open Go.ChangeMaps (open_string)
set_option maxRecDepth 100000

theorem own : ownKnob Try.prog.godebug = none := by kernel_rfl
theorem cellsStr : Try.prog.cellsOf 9 = 1 := by kernel_rfl
theorem laidOut : laidOutB Try.prog = true := by kernel_rfl

theorem lens_append (a b : List (List UInt8)) : lensOf (a ++ b) = lensOf a + lensOf b := by simp [lensOf]
theorem lens_keep : ∀ (l : List (List UInt8)), lensOf (keepL l) ≤ lensOf l
  | [] => Nat.le_refl _
  | x :: r => by
    have e : lensOf (x :: r) = (x.length + 1) + lensOf r := by simp [lensOf]
    have h := lens_keep r
    cases hq : (x == []) with
    | true => rw [keepL_no hq, e]; omega
    | false =>
      have e2 : lensOf (x :: keepL r) = (x.length + 1) + lensOf (keepL r) := by simp [lensOf]
      rw [keepL_yes hq, e, e2]
      omega
theorem joinD_lens : ∀ (l : List (List UInt8)), (joinD l).length ≤ lensOf l
  | [] => Nat.zero_le _
  | [x] => by simp [joinD, lensOf]
  | x :: y :: r => by
    have e : lensOf (x :: y :: r) = (x.length + 1) + lensOf (y :: r) := by simp [lensOf]
    have h := joinD_lens (y :: r)
    rw [e, joinD, List.length_append, List.length_cons]
    omega
theorem joinT_le (t : TagL) : (joinT t).length ≤ t.lang.length + t.ext.length + t.script.length + t.region.length + t.priv.length + 5 + lensOf t.vars + lensOf t.exts := by
  have h := joinD_lens (partsT t)
  have h1 := lens_keep [t.lang, t.ext, t.script, t.region]
  have h2 := lens_keep [t.priv]
  have e1 : lensOf [t.lang, t.ext, t.script, t.region] = t.lang.length + t.ext.length + t.script.length + t.region.length + 4 := by simp [lensOf]; omega
  have e2 : lensOf [t.priv] = t.priv.length + 1 := by simp [lensOf]
  unfold joinT
  unfold partsT at h ⊢
  rw [lens_append, lens_append, lens_append] at h
  omega

theorem contract (H : Type) (enc : TypeId × Value → H) (W : World) (base : Nat) (args : Array Value) (ds gs : List (DataW H)) (before : List MemPlace)
    (hval : ∀ (j : Nat) t v, Try.f4.params[j]? = some t → args[j]? = some v → Value.okWide Try.prog W .any base t v)
    (hW : DataW.Whole enc Try.prog Try.f4.params.toList Rows.namesJoinsSpec.vars false W args.toList ds gs before) (hk : Rows.uptoSmall H (ds ++ gs) = true) :
    Calls Try.prog 4 args W fun e W' => ∃ v, e = .returned v ∧ Rows.namesJoinsSpec.post enc Try.prog Try.f4 false true false false W args v W' := by
  have hW' := hW
  obtain ⟨p, q, hA0, hV, rfl, hfz, hnd⟩ := hW
  have hA : DataW.TrodAll enc Try.prog W 0 (fun _ => true) true Try.f4.params.toList args.toList ds p := hA0
  rw [Try.params4] at hA hval
  obtain ⟨v0, vs0, d0, ds0, p0, q0, hargs, rfl, rfl, h0, r0⟩ := trodAll_cons hA
  obtain ⟨rfl, rfl, rfl⟩ := trodAll_nil r0
  obtain rfl : args = #[v0] := by cases args; simp_all
  obtain ⟨rfl, rfl⟩ := trodVars_none hV
  have hb := bulk_of hk
  simp only [List.append_nil, Rows.uptoBulkAll] at hb
  obtain ⟨t, a1, a2, c1, c2, dv, de, rfl, A1, A2, n1, n2, rfl, D1, D2⟩ := open_tag (hval 0 28 v0 rfl rfl) h0
  have b1 := bulk_text_arg D1
  have b2 := bulk_text_arg D2
  simp only [Rows.uptoBulk, Rows.uptoBulkAll] at hb
  have l1 := lens_length t.vars
  have l2 := lens_length t.exts
  have l3 := joinT_le t
  refine (joins_walk t a1 a2 c1 c2 W (by omega) (by omega) (by omega) A1 A2 n1 n2).mono fun e W' ⟨he, hg⟩ => ?_
  subst he
  exact ⟨_, rfl, law_post laidOut Try.underlying4 rfl (by rw [Try.params4]; exact of_decide_eq_true (by kernel_rfl)) rfl rfl hW' hg⟩

theorem lifted (os : Os) (started : os.Started) (H : Type) (enc : TypeId × Value → H) (F : Stop.Interp) :
    ReturnsInHanded {} Try.checked os 4 .any ((Rows.OpenSpec.upto Rows.namesJoinsSpec).pre6 enc Try.prog Try.f4 Rows.namesJoinsUptoRow.domain false) (((Rows.OpenSpec.upto Rows.namesJoinsSpec).at F).post enc Try.prog Try.f4 false true false false) := by
  refine returnsInHanded_of_cond (C := Try.checked) (s := (Rows.OpenSpec.upto Rows.namesJoinsSpec)) (k := Rows.uptoSmall) rfl own started (by kernel_rfl) Try.func4
    (OpenSpec.witness (enc := enc) (C := Try.checked) (s := (Rows.OpenSpec.upto Rows.namesJoinsSpec)) (k := Rows.uptoSmall) rfl false ⟨#[], #[.agg #[.string .empty, .string .empty, .string .empty, .string .empty, .slice none 0 0, .slice none 0 0, .string .empty]], []⟩ 8 (by kernel_rfl) (by kernel_rfl) (by kernel_rfl) (by kernel_rfl)
      (x := ([.agg [.lit (.string []), .lit (.string []), .lit (.string []), .lit (.string []), .nil, .nil, .lit (.string [])]], [], [])) (by kernel_rfl) rfl (by kernel_rfl)) ?_
  intro W base args ds gs before hval hW _ hk _
  exact contract H enc W base args ds gs before hval hW hk

theorem proved : Rows.NamesJoinsUptoSaid :=
  OpenClaim.holds_of_cond 4 Try.f4 rfl rfl rfl rfl rfl rfl rfl ⟨rfl, rfl, rfl, rfl, rfl⟩ rfl rfl rfl rfl rfl (by kernel_rfl) Try.func4 (by kernel_rfl)
    (of_decide_eq_true (by kernel_rfl)) (by unfold Func.isWrapper; first | (rw [if_pos (by decide +kernel)]; kernel_rfl) | (rw [if_neg (by decide +kernel)]; exact ⟨rfl, rfl⟩))
    (fun os started H enc _ F => lifted os started H enc F)

end Go.Proofs.Ytfjcbodkjjmagaa.namesJoins
