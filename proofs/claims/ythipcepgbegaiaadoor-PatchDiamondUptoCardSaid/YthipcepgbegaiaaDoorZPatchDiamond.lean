/-
  Proved here: PatchDiamond returns true whatever the three lists of quads. Condition: what comes in, with the tables, is of bulk at most 1048576 (the second form); the table of the bases and the two tables of unicode/utf8 are tied to the program text by the given tie.
  By an AI agent.
-/
import Derived.Test.YthipcepgbegaiaaDoorZMorePatchDiamond
import Derived.Test.YthipcepgbegaiaaDoorCards
import Derived.Test.YthipcepgbegaiaaDoorTie
import Derived.Test.YthipcepgbegaiaaDoorZDiamondWalk
import Derived.Test.YthipcepgbegaiaaDoorZAwake23
import Derived.Test.YthipcepgbegaiaaDoorZLaw
import Derived.Test.YthipcepgbegaiaaDoorZMaxAt
import Derived.Test.YthipcepgbegaiaaDoorZGLaid
import Derived.Deep.DeepHandedRow
import Derived.Lib.LaidTab
import Derived.SizedLaws
namespace Go.Proofs.YthipcepgbegaiaaDoor.patchDiamond
open Go.ChangeShapes Go.WideShapes Go.ChangeAt Go.RowKit
open Go.ChangeMaps (open_string)
set_option maxRecDepth 100000

theorem own : ownKnob Tryd.prog.godebug = none := by kernel_rfl
theorem cellsStr : Tryd.prog.cellsOf 9 = 1 := by kernel_rfl
theorem laidOut : laidOutB Tryd.prog = true := by kernel_rfl


theorem contract (H : Type) (enc : TypeId × Value → H) (W : World) (base : Nat) (args : Array Value) (ds gs : List (DataW H)) (before : List MemPlace)
    (hval : ∀ (j : Nat) t v, Tryd.f4.params[j]? = some t → args[j]? = some v → Value.okWide Tryd.prog W .any base t v)
    (hW : DataW.Whole enc Tryd.prog Tryd.f4.params.toList Rows.patchDiamondSpec.vars false W args.toList ds gs before) (hL : laidMetH Tryd.prog Rows.patchDiamondUptoRow.laid W)
    (hsz : (DataW.weightsEach Tryd.prog (Tryd.f4.params.toList ++ []) (ds ++ gs)).all (· ≤ reachBytes) = true) (hsh : W.ShapedOpen Tryd.prog) (hk : Rows.uptoSmall H (ds ++ gs) = true) :
    Calls Tryd.prog 4 args W fun e W' => ∃ v, e = .returned v ∧ Rows.patchDiamondSpec.post enc Tryd.prog Tryd.f4 false true false false W args v W' := by
  have hW' := hW
  obtain ⟨p, q, hA0, hV, rfl, hfz, hnd⟩ := hW
  have hA : DataW.TrodAll enc Tryd.prog W 0 (fun _ => true) true Tryd.f4.params.toList args.toList ds p := hA0
  rw [Tryd.params4] at hA hval
  obtain ⟨v0, vs0, d0, ds0, p0, q0, hargs, rfl, rfl, h0, r0⟩ := trodAll_cons hA
  obtain ⟨v1, vs1, d1, ds1, p1, q1, rfl, rfl, rfl, h1, r1⟩ := trodAll_cons r0
  obtain ⟨v2, vs2, d2, ds2, p2, q2, rfl, rfl, rfl, h2, r2⟩ := trodAll_cons r1
  obtain ⟨rfl, rfl, rfl⟩ := trodAll_nil r2
  obtain rfl : args = #[v0, v1, v2] := by cases args; simp_all
  obtain ⟨rfl, rfl⟩ := trodVars_none hV
  have hb := bulk_of hk
  simp only [List.append_nil, Rows.uptoBulkAll] at hb
  obtain ⟨la, hq0, dq0⟩ := open_quads (hval 0 22 v0 rfl rfl) h0
  have bq0 := bulk_quadsD dq0
  have N0 : Neat la := ⟨by omega, fun q hq t ht => ⟨by have := bq0.2 q hq t ht; omega, by have := bq0.2 q hq t ht; omega, by have := bq0.2 q hq t ht; omega⟩⟩
  obtain ⟨lb, hq1, dq1⟩ := open_quads (hval 1 22 v1 rfl rfl) h1
  have bq1 := bulk_quadsD dq1
  have N1 : Neat lb := ⟨by omega, fun q hq t ht => ⟨by have := bq1.2 q hq t ht; omega, by have := bq1.2 q hq t ht; omega, by have := bq1.2 q hq t ht; omega⟩⟩
  obtain ⟨lc, hq2, dq2⟩ := open_quads (hval 2 22 v2 rfl rfl) h2
  have bq2 := bulk_quadsD dq2
  have N2 : Neat lc := ⟨by omega, fun q hq t ht => ⟨by have := bq2.2 q hq t ht; omega, by have := bq2.2 q hq t ht; omega, by have := bq2.2 q hq t ht; omega⟩⟩
  have hM : MaxAt W := maxAt_of_shaped hsh
  have hT : TabAt W := tabAt_of_laid (laidMet_tail (show laidMet Tryd.prog [("unicode/utf8.acceptRanges", Rows.laid_unicode_utf8_acceptRanges), ("tessera/names.basesTable", Rows.laid_tessera_names_basesTable), ("unicode/utf8.first", Rows.laid_unicode_utf8_first)] W from hL))
  refine (diamond_walk awake_l la lb lc v0 v1 v2 W hT hM hq0 hq1 hq2 N0 N1 N2 (by omega)).mono fun e W' ⟨he, hg⟩ => ?_
  subst he
  exact ⟨_, rfl, law_post laidOut Tryd.underlying4 rfl (by rw [Tryd.params4]; exact of_decide_eq_true (by kernel_rfl)) rfl rfl hW' hg⟩

theorem laid_met (os : Os) : laidMetH Tryd.prog Rows.patchDiamondUptoRow.laid ((tablesWorld os).forCall (fun _ _ => 0) ⟨#[], #[.slice none 0 0, .slice none 0 0, .slice none 0 0], []⟩).memory := laidMet_of_run' 8 (by kernel_rfl) (by kernel_rfl)
theorem reads (os : Os) {H : Type} (enc : TypeId × Value → H) : ∃ places, DataW.whole enc Tryd.prog ((tablesWorld os).forCall (fun _ _ => 0) ⟨#[], #[(Value.slice none 0 0), (Value.slice none 0 0), (Value.slice none 0 0)], []⟩).memory Tryd.f4.params.toList Rows.patchDiamondSpec.vars false #[Value.slice none 0 0, Value.slice none 0 0, Value.slice none 0 0].toList 8 = some ([.nil, .nil, .nil], [], places) :=
  ⟨[], by kernel_rfl⟩
theorem lifted (os : Os) (started : os.Started) (H : Type) (enc : TypeId × Value → H) (F : Stop.Interp) :
    ReturnsInHanded {} Tryd.checked os 4 .any ((Rows.OpenSpec.upto Rows.patchDiamondSpec).preRow enc Tryd.prog Tryd.f4 Rows.patchDiamondUptoRow.domain false Rows.patchDiamondUptoRow.laid) (((Rows.OpenSpec.upto Rows.patchDiamondSpec).at F).post enc Tryd.prog Tryd.f4 false true false false) := by
  obtain ⟨places, hx⟩ := reads os enc
  refine returnsInHanded_of_row (C := Tryd.checked) (s := (Rows.OpenSpec.upto Rows.patchDiamondSpec)) own started (by kernel_rfl) Tryd.func4
    (witness_row_at (enc := enc) (C := Tryd.checked) false (tablesWorld os) #[.slice none 0 0, .slice none 0 0, .slice none 0 0] rfl (by kernel_rfl) (by kernel_rfl) (by kernel_rfl)
      (OpenSpec.preRow_of_cond 8 hx (by kernel_rfl) (fun k hk => by cases hk; kernel_rfl) (by kernel_rfl) (laid_met os))) ?_
  intro W base args ds gs before hval hW _ hcond hsz hL hsh _
  exact contract H enc W base args ds gs before hval hW hL hsz hsh (hcond _ rfl)

theorem said : Rows.PatchDiamondUptoSaid :=
  OpenClaim.holds_of_cond 4 Tryd.f4 rfl rfl rfl rfl rfl rfl rfl ⟨rfl, rfl, rfl, rfl, rfl⟩ rfl rfl rfl rfl rfl (by kernel_rfl) Tryd.func4 (by kernel_rfl)
    (of_decide_eq_true (by kernel_rfl)) (by unfold Func.isWrapper; first | (rw [if_pos (by decide +kernel)]; kernel_rfl) | (rw [if_neg (by decide +kernel)]; exact ⟨rfl, rfl⟩))
    (fun os started H enc _ F => by rw [OpenClaim.pre_eq_preRow]; exact lifted os started H enc F)

theorem plain (f : FuncId) (fn : Func) (hf : Tryd.pinned.checked.prog.funcNamed "tessera/tesseralaw23.PatchDiamond" = some f) (hfn : Tryd.pinned.checked.prog.funcs[f]? = some fn) :
    false = Tryd.pinned.checked.prog.looks [] ∧ ∀ (j : Nat) t, fn.params[j]? = some t → Tryd.pinned.checked.prog.wantsStandIn t = false := by
  obtain rfl : f = 4 := Option.some.inj ((show Tryd.prog.funcNamed "tessera/tesseralaw23.PatchDiamond" = some 4 by kernel_rfl).symm.trans hf) |>.symm
  obtain rfl : fn = Tryd.f4 := (Option.some.inj (Tryd.func4.symm.trans hfn)).symm
  refine ⟨by kernel_rfl, fun j t ht => ?_⟩
  rw [Tryd.params4] at ht
  have hm := Array.mem_of_getElem? ht
  have hall : ([22, 22, 22].all fun u => !Tryd.prog.wantsStandIn u) = true := by kernel_rfl
  exact (show Tryd.prog.wantsStandIn t = false by simpa using List.all_eq_true.1 hall t (by simpa using hm))

theorem proved : Rows.PatchDiamondUptoCardSaid :=
  Claim7.holds_tied_plain_at .later [] _ _ _ _ said (fun _ h => by cases h) (by kernel_rfl) (fun _ h => by cases h) patchDiamondUpto_row_tie rfl ⟨rfl, rfl⟩ (by kernel_rfl) rfl plain (by kernel_rfl)

end Go.Proofs.YthipcepgbegaiaaDoor.patchDiamond
