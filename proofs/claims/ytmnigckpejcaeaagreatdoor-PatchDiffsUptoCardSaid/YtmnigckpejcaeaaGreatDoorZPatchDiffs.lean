/-
  Proved here: PatchDiffs returns true whatever the two lists of quads and the patch. Condition: what comes in, with the tables, is of bulk at most 1048576 (the second form); the table of the bases, the two tables of unicode/utf8 and errors.errorType are tied to the program text by the given tie.
  By an AI agent.
-/
import Derived.Test.YtmnigckpejcaeaaGreatDoorCards
import Derived.Test.YtmnigckpejcaeaaGreatDoorTie
import Derived.Test.YtmnigckpejcaeaaGreatDoorZTextsW0
import Derived.Test.YtmnigckpejcaeaaGreatDoorZAwake0
import Derived.Test.YtmnigckpejcaeaaGreatDoorZLaw
import Derived.Lib.SmallJoins
import Derived.Deep.DeepHandedRow
import Derived.Lib.LaidTab
import Derived.SizedLaws
namespace Go.Proofs.YtmnigckpejcaeaaGreatDoor.patchDiffs
open Go.ChangeShapes Go.WideShapes Go.ChangeAt Go.RowKit Go.Joins Go.Deep
open Go.ChangeMaps (open_string)
set_option maxRecDepth 100000
theorem own : ownKnob Tryz.prog.godebug = none := by kernel_rfl
theorem cellsStr : Tryz.prog.cellsOf 9 = 1 := by kernel_rfl
theorem laidOut : laidOutB Tryz.prog = true := by kernel_rfl
theorem contract (H : Type) (enc : TypeId × Value -> H) (W : World) (base : Nat) (args : Array Value) (ds gs : List (DataW H)) (before : List MemPlace)
   (hval : ∀ (j : Nat) t v, Tryz.f4.params[j]? = some t -> args[j]? = some v -> Value.okWide Tryz.prog W .any base t v)
   (hW : DataW.Whole enc Tryz.prog Tryz.f4.params.toList Rows.patchDiffsSpec.vars false W args.toList ds gs before) (hL : laidMetH Tryz.prog Rows.patchDiffsUptoRow.laid W)
   (hsz : (DataW.weightsEach Tryz.prog (Tryz.f4.params.toList ++ []) (ds ++ gs)).all (· <= reachBytes) = true) (hsh : W.ShapedOpen Tryz.prog) (hk : Rows.uptoSmall H (ds ++ gs) = true) :
   Calls Tryz.prog 4 args W fun e W' => ∃ v, e = .returned v /\ Rows.patchDiffsSpec.post enc Tryz.prog Tryz.f4 false true false false W args v W' := by
 have hW' := hW
 obtain ⟨p, q, hA0, hV, rfl, hfz, hnd⟩ := hW
 have hA : DataW.TrodAll enc Tryz.prog W 0 (fun _ => true) true Tryz.f4.params.toList args.toList ds p := hA0
 rw [Tryz.params4] at hA hval
 obtain ⟨v0, vs0, d0, ds0, p0, q0, hargs, rfl, rfl, h0, r0⟩ := trodAll_cons hA
 obtain ⟨v1, vs1, d1, ds1, p1, q1, rfl, rfl, rfl, h1, r1⟩ := trodAll_cons r0
 obtain ⟨v2, vs2, d2, ds2, p2, q2, rfl, rfl, rfl, h2, r2⟩ := trodAll_cons r1
 obtain ⟨rfl, rfl, rfl⟩ := trodAll_nil r2
 obtain rfl : args = #[v0, v1, v2] := by cases args; simp_all
 obtain ⟨rfl, rfl⟩ := trodVars_none hV
 have hb := bulk_of hk
 simp only [List.append_nil, Rows.uptoBulkAll] at hb
 obtain ⟨la, hq0, dq0⟩ := open_quads (hval 0 22 v0 rfl rfl) h0
 have bq0 := bulk_quadsD dq0
 have N0 : Neat la := ⟨by omega, fun q hq t ht => ⟨by have := bq0.2 q hq t ht; omega, by have := bq0.2 q hq t ht; omega, by have := bq0.2 q hq t ht; omega⟩⟩
 obtain ⟨lb, hq1, dq1⟩ := open_quads (hval 1 22 v1 rfl rfl) h1
 have bq1 := bulk_quadsD dq1
 have N1 : Neat lb := ⟨by omega, fun q hq t ht => ⟨by have := bq1.2 q hq t ht; omega, by have := bq1.2 q hq t ht; omega, by have := bq1.2 q hq t ht; omega⟩⟩
 obtain ⟨x20, x21, y20, y21, nn2, rfl, rfl, rfl, t20, t21⟩ := open_agg2 Tryz.underlying24 (by kernel_rfl) (by kernel_rfl) (hval 2 24 v2 rfl rfl) h2
 obtain ⟨ov0, ol0, e20, hq20, dq20⟩ := quads_of_trod t20
 cases e20
 have bq20 := bulk_quadsD dq20
 obtain ⟨ov1, ol1, e21, hq21, dq21⟩ := quads_of_trod t21
 cases e21
 have bq21 := bulk_quadsD dq21
 simp only [Rows.uptoBulk, Rows.uptoBulkAll] at hb
 have N20 : Neat ol0 := ⟨by omega, fun q hq t ht => ⟨by have := bq20.2 q hq t ht; omega, by have := bq20.2 q hq t ht; omega, by have := bq20.2 q hq t ht; omega⟩⟩
 have N21 : Neat ol1 := ⟨by omega, fun q hq t ht => ⟨by have := bq21.2 q hq t ht; omega, by have := bq21.2 q hq t ht; omega, by have := bq21.2 q hq t ht; omega⟩⟩
 have hM : MaxAt W := maxAt_of_shaped hsh
 obtain ⟨hT, hU, hE⟩ : TabAt W /\ UtAt W /\ ErrType W := met_parts hL
 refine (diffs_walk23 la lb ⟨ol0, ol1⟩ v0 v1 _ _ W hT hM hU hE hq0 hq1 ⟨hq20, hq21⟩ N0 N1 ⟨N20, N21⟩).mono fun e W' ⟨he, hg⟩ => ?_
 subst he
 exact ⟨_, rfl, law_post laidOut Tryz.underlying4 rfl (by rw [Tryz.params4]; exact of_decide_eq_true (by kernel_rfl)) rfl rfl hW' hg⟩
theorem laid_met (os : Os) : laidMetH Tryz.prog Rows.patchDiffsUptoRow.laid ((allWorld os).forCall (fun _ _ => 0) ⟨#[], #[.slice none 0 0, .slice none 0 0, .agg #[.slice none 0 0, .slice none 0 0]], []⟩).memory := laidMetH_of_parts (laidMet_of_run' 8 (by kernel_rfl) (by kernel_rfl)) (by kernel_rfl)
theorem reads (os : Os) {H : Type} (enc : TypeId × Value -> H) : ∃ places, DataW.whole enc Tryz.prog ((allWorld os).forCall (fun _ _ => 0) ⟨#[], #[(Value.slice none 0 0), (Value.slice none 0 0), (Value.agg #[.slice none 0 0, .slice none 0 0])], []⟩).memory Tryz.f4.params.toList Rows.patchDiffsSpec.vars false #[Value.slice none 0 0, Value.slice none 0 0, Value.agg #[.slice none 0 0, .slice none 0 0]].toList 8 = some ([.nil, .nil, .agg [.nil, .nil]], [], places) :=
 ⟨[], by kernel_rfl⟩
theorem lifted (os : Os) (started : os.Started) (H : Type) (enc : TypeId × Value -> H) (F : Stop.Interp) :
   ReturnsInHanded {} Tryz.checked os 4 .any ((Rows.OpenSpec.upto Rows.patchDiffsSpec).preRow enc Tryz.prog Tryz.f4 Rows.patchDiffsUptoRow.domain false Rows.patchDiffsUptoRow.laid) (((Rows.OpenSpec.upto Rows.patchDiffsSpec).at F).post enc Tryz.prog Tryz.f4 false true false false) := by
 obtain ⟨places, hx⟩ := reads os enc
 refine returnsInHanded_of_row (C := Tryz.checked) (s := (Rows.OpenSpec.upto Rows.patchDiffsSpec)) own started (by kernel_rfl) Tryz.func4
   (witness_row_at (enc := enc) (C := Tryz.checked) false (allWorld os) #[.slice none 0 0, .slice none 0 0, .agg #[.slice none 0 0, .slice none 0 0]] rfl (by kernel_rfl) (by kernel_rfl) (by kernel_rfl)
     (OpenSpec.preRow_of_cond 8 hx (by kernel_rfl) (fun k hk => by cases hk; kernel_rfl) (by kernel_rfl) (laid_met os))) ?_
 intro W base args ds gs before hval hW _ hcond hsz hL hsh _
 exact contract H enc W base args ds gs before hval hW hL hsz hsh (hcond _ rfl)
theorem said : Rows.PatchDiffsUptoSaid :=
 OpenClaim.holds_of_cond 4 Tryz.f4 rfl rfl rfl rfl rfl rfl rfl ⟨rfl, rfl, rfl, rfl, rfl⟩ rfl rfl rfl rfl rfl (by kernel_rfl) Tryz.func4 (by kernel_rfl)
   (of_decide_eq_true (by kernel_rfl)) (by unfold Func.isWrapper; first | (rw [if_pos (by decide +kernel)]; kernel_rfl) | (rw [if_neg (by decide +kernel)]; exact ⟨rfl, rfl⟩))
   (fun os started H enc _ F => by rw [OpenClaim.pre_eq_preRow]; exact lifted os started H enc F)
theorem plain (f : FuncId) (fn : Func) (hf : Tryz.pinned.checked.prog.funcNamed "tessera/tesseralaw23.PatchDiffs" = some f) (hfn : Tryz.pinned.checked.prog.funcs[f]? = some fn) :
   true = Tryz.pinned.checked.prog.looks [] /\ ∀ (j : Nat) t, fn.params[j]? = some t -> Tryz.pinned.checked.prog.wantsStandIn t = false := by
 obtain rfl : f = 4 := Option.some.inj ((show Tryz.prog.funcNamed "tessera/tesseralaw23.PatchDiffs" = some 4 by kernel_rfl).symm.trans hf) |>.symm
 obtain rfl : fn = Tryz.f4 := (Option.some.inj (Tryz.func4.symm.trans hfn)).symm
 refine ⟨by kernel_rfl, fun j t ht => ?_⟩
 rw [Tryz.params4] at ht
 have hm := Array.mem_of_getElem? ht
 have hall : ([22, 22, 24].all fun u => !Tryz.prog.wantsStandIn u) = true := by kernel_rfl
 exact (show Tryz.prog.wantsStandIn t = false by simpa using List.all_eq_true.1 hall t (by simpa using hm))
theorem proved : Rows.PatchDiffsUptoCardSaid :=
 Claim7.holds_tied_plain_at .later [] _ _ _ _ said (fun _ h => by cases h) (by kernel_rfl) (fun _ h => by cases h) patchDiffsUpto_row_tie rfl ⟨rfl, rfl⟩ (by kernel_rfl) rfl plain (by kernel_rfl)
end Go.Proofs.YtmnigckpejcaeaaGreatDoor.patchDiffs
