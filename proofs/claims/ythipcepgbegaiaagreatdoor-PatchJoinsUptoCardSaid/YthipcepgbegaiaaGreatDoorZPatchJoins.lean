/-
  Proved here: PatchJoins returns true whatever the two patches. Condition: what comes in, with the tables, is of bulk at most 1048576 (the second form); the table of the bases and the two tables of unicode/utf8 are tied to the program text by the given tie.
  By an AI agent.
-/
import Derived.Test.YthipcepgbegaiaaGreatDoorZMorePatchJoins
import Derived.Test.YthipcepgbegaiaaGreatDoorCards
import Derived.Test.YthipcepgbegaiaaGreatDoorTie
import Derived.Test.YthipcepgbegaiaaGreatDoorZRef23W2
import Derived.Test.YthipcepgbegaiaaGreatDoorZLaw
import Derived.Lib.SmallJoins
import Derived.Deep.DeepHandedRow
import Derived.Lib.LaidTab
import Derived.SizedLaws
import Derived.Test.YthipcepgbegaiaaGreatDoorZPatchW4
namespace Go.Proofs.YthipcepgbegaiaaGreatDoor.patchJoins
open Go.ChangeShapes Go.WideShapes Go.ChangeAt Go.RowKit Go.Joins Go.Deep
open Go.ChangeMaps (open_string)
set_option maxRecDepth 100000

theorem own : ownKnob Tryz.prog.godebug = none := by kernel_rfl
theorem cellsStr : Tryz.prog.cellsOf 9 = 1 := by kernel_rfl
theorem laidOut : laidOutB Tryz.prog = true := by kernel_rfl


theorem contract (H : Type) (enc : TypeId × Value → H) (W : World) (base : Nat) (args : Array Value) (ds gs : List (DataW H)) (before : List MemPlace)
    (hval : ∀ (j : Nat) t v, Tryz.f4.params[j]? = some t → args[j]? = some v → Value.okWide Tryz.prog W .any base t v)
    (hW : DataW.Whole enc Tryz.prog Tryz.f4.params.toList Rows.patchJoinsSpec.vars false W args.toList ds gs before) (hL : laidMetH Tryz.prog Rows.patchJoinsUptoRow.laid W)
    (hsz : (DataW.weightsEach Tryz.prog (Tryz.f4.params.toList ++ []) (ds ++ gs)).all (· ≤ reachBytes) = true) (hsh : W.ShapedOpen Tryz.prog) (hk : Rows.uptoSmall H (ds ++ gs) = true) :
    Calls Tryz.prog 4 args W fun e W' => ∃ v, e = .returned v ∧ Rows.patchJoinsSpec.post enc Tryz.prog Tryz.f4 false true false false W args v W' := by
  have hW' := hW
  obtain ⟨p, q, hA0, hV, rfl, hfz, hnd⟩ := hW
  have hA : DataW.TrodAll enc Tryz.prog W 0 (fun _ => true) true Tryz.f4.params.toList args.toList ds p := hA0
  rw [Tryz.params4] at hA hval
  obtain ⟨v0, vs0, d0, ds0, p0, q0, hargs, rfl, rfl, h0, r0⟩ := trodAll_cons hA
  obtain ⟨v1, vs1, d1, ds1, p1, q1, rfl, rfl, rfl, h1, r1⟩ := trodAll_cons r0
  obtain ⟨rfl, rfl, rfl⟩ := trodAll_nil r1
  obtain rfl : args = #[v0, v1] := by cases args; simp_all
  obtain ⟨rfl, rfl⟩ := trodVars_none hV
  have hb := bulk_of hk
  simp only [List.append_nil, Rows.uptoBulkAll] at hb
  obtain ⟨x00, x01, y00, y01, nn0, rfl, rfl, rfl, t00, t01⟩ := open_agg2 Tryz.underlying24 (by kernel_rfl) (by kernel_rfl) (hval 0 24 v0 rfl rfl) h0
  obtain ⟨pv0, pl0, e00, hq00, dq00⟩ := quads_of_trod t00
  cases e00
  have bq00 := bulk_quadsD dq00
  obtain ⟨pv1, pl1, e01, hq01, dq01⟩ := quads_of_trod t01
  cases e01
  have bq01 := bulk_quadsD dq01
  simp only [Rows.uptoBulk, Rows.uptoBulkAll] at hb
  have N00 : Neat pl0 := ⟨by omega, fun q hq t ht => ⟨by have := bq00.2 q hq t ht; omega, by have := bq00.2 q hq t ht; omega, by have := bq00.2 q hq t ht; omega⟩⟩
  have N01 : Neat pl1 := ⟨by omega, fun q hq t ht => ⟨by have := bq01.2 q hq t ht; omega, by have := bq01.2 q hq t ht; omega, by have := bq01.2 q hq t ht; omega⟩⟩
  obtain ⟨x10, x11, y10, y11, nn1, rfl, rfl, rfl, t10, t11⟩ := open_agg2 Tryz.underlying24 (by kernel_rfl) (by kernel_rfl) (hval 1 24 v1 rfl rfl) h1
  obtain ⟨qv0, ql0, e10, hq10, dq10⟩ := quads_of_trod t10
  cases e10
  have bq10 := bulk_quadsD dq10
  obtain ⟨qv1, ql1, e11, hq11, dq11⟩ := quads_of_trod t11
  cases e11
  have bq11 := bulk_quadsD dq11
  simp only [Rows.uptoBulk, Rows.uptoBulkAll] at hb
  have N10 : Neat ql0 := ⟨by omega, fun q hq t ht => ⟨by have := bq10.2 q hq t ht; omega, by have := bq10.2 q hq t ht; omega, by have := bq10.2 q hq t ht; omega⟩⟩
  have N11 : Neat ql1 := ⟨by omega, fun q hq t ht => ⟨by have := bq11.2 q hq t ht; omega, by have := bq11.2 q hq t ht; omega, by have := bq11.2 q hq t ht; omega⟩⟩
  have hM : MaxAt W := maxAt_of_shaped hsh
  have hT : TabAt W := tabAt_of_laid (laidMet_tail (show laidMet Tryz.prog [("unicode/utf8.acceptRanges", Rows.laid_unicode_utf8_acceptRanges), ("tessera/names.basesTable", Rows.laid_tessera_names_basesTable), ("unicode/utf8.first", Rows.laid_unicode_utf8_first)] W from hL))
  refine (joins_walk23 ⟨pl0, pl1⟩ ⟨ql0, ql1⟩ _ _ _ _ W hT hM ⟨hq00, hq01⟩ ⟨hq10, hq11⟩ ⟨N00, N01⟩ ⟨N10, N11⟩).mono fun e W' ⟨he, hg⟩ => ?_
  subst he
  exact ⟨_, rfl, law_post laidOut Tryz.underlying4 rfl (by rw [Tryz.params4]; exact of_decide_eq_true (by kernel_rfl)) rfl rfl hW' hg⟩

theorem laid_met (os : Os) : laidMetH Tryz.prog Rows.patchJoinsUptoRow.laid ((tablesWorld os).forCall (fun _ _ => 0) ⟨#[], #[.agg #[.slice none 0 0, .slice none 0 0], .agg #[.slice none 0 0, .slice none 0 0]], []⟩).memory := laidMet_of_run' 8 (by kernel_rfl) (by kernel_rfl)
theorem reads (os : Os) {H : Type} (enc : TypeId × Value → H) : ∃ places, DataW.whole enc Tryz.prog ((tablesWorld os).forCall (fun _ _ => 0) ⟨#[], #[(Value.agg #[.slice none 0 0, .slice none 0 0]), (Value.agg #[.slice none 0 0, .slice none 0 0])], []⟩).memory Tryz.f4.params.toList Rows.patchJoinsSpec.vars false #[Value.agg #[.slice none 0 0, .slice none 0 0], Value.agg #[.slice none 0 0, .slice none 0 0]].toList 8 = some ([.agg [.nil, .nil], .agg [.nil, .nil]], [], places) :=
  ⟨[], by kernel_rfl⟩
theorem lifted (os : Os) (started : os.Started) (H : Type) (enc : TypeId × Value → H) (F : Stop.Interp) :
    ReturnsInHanded {} Tryz.checked os 4 .any ((Rows.OpenSpec.upto Rows.patchJoinsSpec).preRow enc Tryz.prog Tryz.f4 Rows.patchJoinsUptoRow.domain false Rows.patchJoinsUptoRow.laid) (((Rows.OpenSpec.upto Rows.patchJoinsSpec).at F).post enc Tryz.prog Tryz.f4 false true false false) := by
  obtain ⟨places, hx⟩ := reads os enc
  refine returnsInHanded_of_row (C := Tryz.checked) (s := (Rows.OpenSpec.upto Rows.patchJoinsSpec)) own started (by kernel_rfl) Tryz.func4
    (witness_row_at (enc := enc) (C := Tryz.checked) false (tablesWorld os) #[.agg #[.slice none 0 0, .slice none 0 0], .agg #[.slice none 0 0, .slice none 0 0]] rfl (by kernel_rfl) (by kernel_rfl) (by kernel_rfl)
      (OpenSpec.preRow_of_cond 8 hx (by kernel_rfl) (fun k hk => by cases hk; kernel_rfl) (by kernel_rfl) (laid_met os))) ?_
  intro W base args ds gs before hval hW _ hcond hsz hL hsh _
  exact contract H enc W base args ds gs before hval hW hL hsz hsh (hcond _ rfl)

theorem said : Rows.PatchJoinsUptoSaid :=
  OpenClaim.holds_of_cond 4 Tryz.f4 rfl rfl rfl rfl rfl rfl rfl ⟨rfl, rfl, rfl, rfl, rfl⟩ rfl rfl rfl rfl rfl (by kernel_rfl) Tryz.func4 (by kernel_rfl)
    (of_decide_eq_true (by kernel_rfl)) (by unfold Func.isWrapper; first | (rw [if_pos (by decide +kernel)]; kernel_rfl) | (rw [if_neg (by decide +kernel)]; exact ⟨rfl, rfl⟩))
    (fun os started H enc _ F => by rw [OpenClaim.pre_eq_preRow]; exact lifted os started H enc F)

theorem plain (f : FuncId) (fn : Func) (hf : Tryz.pinned.checked.prog.funcNamed "tessera/tesseralaw23.PatchJoins" = some f) (hfn : Tryz.pinned.checked.prog.funcs[f]? = some fn) :
    true = Tryz.pinned.checked.prog.looks [] ∧ ∀ (j : Nat) t, fn.params[j]? = some t → Tryz.pinned.checked.prog.wantsStandIn t = false := by
  obtain rfl : f = 4 := Option.some.inj ((show Tryz.prog.funcNamed "tessera/tesseralaw23.PatchJoins" = some 4 by kernel_rfl).symm.trans hf) |>.symm
  obtain rfl : fn = Tryz.f4 := (Option.some.inj (Tryz.func4.symm.trans hfn)).symm
  refine ⟨by kernel_rfl, fun j t ht => ?_⟩
  rw [Tryz.params4] at ht
  have hm := Array.mem_of_getElem? ht
  have hall : ([24, 24].all fun u => !Tryz.prog.wantsStandIn u) = true := by kernel_rfl
  exact (show Tryz.prog.wantsStandIn t = false by simpa using List.all_eq_true.1 hall t (by simpa using hm))

theorem proved : Rows.PatchJoinsUptoCardSaid :=
  Claim7.holds_tied_plain_at .later [] _ _ _ _ said (fun _ h => by cases h) (by kernel_rfl) (fun _ h => by cases h) patchJoinsUpto_row_tie rfl ⟨rfl, rfl⟩ (by kernel_rfl) rfl plain (by kernel_rfl)

end Go.Proofs.YthipcepgbegaiaaGreatDoor.patchJoins
