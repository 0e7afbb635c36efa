/-
  Proved here: NquadsLoose returns true whatever the dataset, the two texts and the order. Condition: what comes in, with the tables, is of bulk at most 1048576 (the second form); the table of the bases, the two tables of unicode/utf8 and errors.errorType are tied to the program text by the given tie.
  By an AI agent.
-/
import Derived.Test.YtdegonmkikfghaaGreatDoorCards
import Derived.Test.YtdegonmkikfghaaGreatDoorTie
import Derived.Test.YtdegonmkikfghaaGreatDoorZLooseW2
import Derived.Test.YtdegonmkikfghaaGreatDoorZLaidErr
import Derived.Test.YtdegonmkikfghaaGreatDoorZLaw
import Derived.Lib.SmallJoins
import Derived.Deep.DeepHandedRow
import Derived.Lib.LaidTab
import Derived.SizedLaws
namespace Go.Proofs.YtdegonmkikfghaaGreatDoor.nquadsLoose
open Go.ChangeShapes Go.WideShapes Go.ChangeAt Go.RowKit Go.Joins Go.Deep
open Go.ChangeMaps (open_string)
set_option maxRecDepth 100000
theorem own : ownKnob Tryz.prog.godebug = none := by kernel_rfl
theorem cellsStr : Tryz.prog.cellsOf 9 = 1 := by kernel_rfl
theorem laidOut : laidOutB Tryz.prog = true := by kernel_rfl
theorem contract (H : Type) (enc : TypeId × Value -> H) (W : World) (base : Nat) (args : Array Value) (ds gs : List (DataW H)) (before : List MemPlace)
   (hval : ∀ (j : Nat) t v, Tryz.f8.params[j]? = some t -> args[j]? = some v -> Value.okWide Tryz.prog W .any base t v)
   (hW : DataW.Whole enc Tryz.prog Tryz.f8.params.toList Rows.nquadsLooseSpec.vars false W args.toList ds gs before) (hL : laidMetH Tryz.prog Rows.nquadsLooseUptoRow.laid W)
   (hsz : (DataW.weightsEach Tryz.prog (Tryz.f8.params.toList ++ []) (ds ++ gs)).all (· <= reachBytes) = true) (hsh : W.ShapedOpen Tryz.prog) (hk : Rows.uptoSmall H (ds ++ gs) = true) :
   Calls Tryz.prog 8 args W fun e W' => ∃ v, e = .returned v /\ Rows.nquadsLooseSpec.post enc Tryz.prog Tryz.f8 false true false false W args v W' := by
 have hW' := hW
 obtain ⟨p, q, hA0, hV, rfl, hfz, hnd⟩ := hW
 have hA : DataW.TrodAll enc Tryz.prog W 0 (fun _ => true) true Tryz.f8.params.toList args.toList ds p := hA0
 rw [Tryz.params8] at hA hval
 obtain ⟨v0, vs0, d0, ds0, p0, q0, hargs, rfl, rfl, h0, r0⟩ := trodAll_cons hA
 obtain ⟨rfl, rfl, rfl⟩ := trodAll_nil r0
 obtain rfl : args = #[v0] := by cases args; simp_all
 obtain ⟨rfl, rfl⟩ := trodVars_none hV
 have hb := bulk_of hk
 simp only [List.append_nil, Rows.uptoBulkAll] at hb
 obtain ⟨x0, x1, x2, x3, y0, y1, y2, y3, nn, rfl, rfl, rfl, t0, t1, t2, t3⟩ := open_agg4 Tryz.underlying70 (by kernel_rfl) (by kernel_rfl) (hval 0 70 v0 rfl rfl) h0
 obtain ⟨qv0, la, e0, hq0, dq0⟩ := quads_of_trod t0
 cases e0
 have bq0 := bulk_quadsD dq0
 obtain ⟨gap, rfl, eg⟩ := strq_of_trod t1
 obtain ⟨bl, rfl, eb⟩ := strq_of_trod t2
 obtain ⟨oa, oc, ord, eo, hO⟩ := ints_of_trod t3
 cases eo
 simp only [Rows.uptoBulk, Rows.uptoBulkAll, eg, eb] at hb
 have N0 : Neat la := ⟨by omega, fun q hq t ht => ⟨by have := bq0.2 q hq t ht; omega, by have := bq0.2 q hq t ht; omega, by have := bq0.2 q hq t ht; omega⟩⟩
 have hM : MaxAt W := maxAt_of_shaped hsh
 obtain ⟨hT, hU, hE⟩ : TabAt W /\ UtAt W /\ ErrType W := met_parts hL
 refine (loose_walk la gap bl ord x0 oa oc W hq0 N0 hO (by omega) hT hM hU hE).mono fun e W' ⟨he, hg⟩ => ?_
 subst he
 exact ⟨_, rfl, law_post laidOut Tryz.underlying4 rfl (by rw [Tryz.params8]; exact of_decide_eq_true (by kernel_rfl)) rfl rfl hW' hg⟩
theorem laid_met (os : Os) : laidMetH Tryz.prog Rows.nquadsLooseUptoRow.laid ((allWorld os).forCall (fun _ _ => 0) ⟨#[], #[.agg #[.slice none 0 0, .string .empty, .string .empty, .slice none 0 0]], []⟩).memory := laidMetH_of_parts (laidMet_of_run' 8 (by kernel_rfl) (by kernel_rfl)) (by kernel_rfl)
theorem reads (os : Os) {H : Type} (enc : TypeId × Value -> H) : ∃ places, DataW.whole enc Tryz.prog ((allWorld os).forCall (fun _ _ => 0) ⟨#[], #[(Value.agg #[.slice none 0 0, .string .empty, .string .empty, .slice none 0 0])], []⟩).memory Tryz.f8.params.toList Rows.nquadsLooseSpec.vars false #[Value.agg #[.slice none 0 0, .string .empty, .string .empty, .slice none 0 0]].toList 8 = some ([.agg [.nil, .lit (.string []), .lit (.string []), .nil]], [], places) :=
 ⟨[], by kernel_rfl⟩
theorem lifted (os : Os) (started : os.Started) (H : Type) (enc : TypeId × Value -> H) (F : Stop.Interp) :
   ReturnsInHanded {} Tryz.checked os 8 .any ((Rows.OpenSpec.upto Rows.nquadsLooseSpec).preRow enc Tryz.prog Tryz.f8 Rows.nquadsLooseUptoRow.domain false Rows.nquadsLooseUptoRow.laid) (((Rows.OpenSpec.upto Rows.nquadsLooseSpec).at F).post enc Tryz.prog Tryz.f8 false true false false) := by
 obtain ⟨places, hx⟩ := reads os enc
 refine returnsInHanded_of_row (C := Tryz.checked) (s := (Rows.OpenSpec.upto Rows.nquadsLooseSpec)) own started (by kernel_rfl) Tryz.func8
   (witness_row_at (enc := enc) (C := Tryz.checked) false (allWorld os) #[.agg #[.slice none 0 0, .string .empty, .string .empty, .slice none 0 0]] rfl (by kernel_rfl) (by kernel_rfl) (by kernel_rfl)
     (OpenSpec.preRow_of_cond 8 hx (by kernel_rfl) (fun k hk => by cases hk; kernel_rfl) (by kernel_rfl) (laid_met os))) ?_
 intro W base args ds gs before hval hW _ hcond hsz hL hsh _
 exact contract H enc W base args ds gs before hval hW hL hsz hsh (hcond _ rfl)
theorem said : Rows.NquadsLooseUptoSaid :=
 OpenClaim.holds_of_cond 8 Tryz.f8 rfl rfl rfl rfl rfl rfl rfl ⟨rfl, rfl, rfl, rfl, rfl⟩ rfl rfl rfl rfl rfl (by kernel_rfl) Tryz.func8 (by kernel_rfl)
   (of_decide_eq_true (by kernel_rfl)) (by unfold Func.isWrapper; first | (rw [if_pos (by decide +kernel)]; kernel_rfl) | (rw [if_neg (by decide +kernel)]; exact ⟨rfl, rfl⟩))
   (fun os started H enc _ F => by rw [OpenClaim.pre_eq_preRow]; exact lifted os started H enc F)
theorem plain (f : FuncId) (fn : Func) (hf : Tryz.pinned.checked.prog.funcNamed "tessera/tesseralaw09.NquadsLoose" = some f) (hfn : Tryz.pinned.checked.prog.funcs[f]? = some fn) :
   true = Tryz.pinned.checked.prog.looks [] /\ ∀ (j : Nat) t, fn.params[j]? = some t -> Tryz.pinned.checked.prog.wantsStandIn t = false := by
 obtain rfl : f = 8 := Option.some.inj ((show Tryz.prog.funcNamed "tessera/tesseralaw09.NquadsLoose" = some 8 by kernel_rfl).symm.trans hf) |>.symm
 obtain rfl : fn = Tryz.f8 := (Option.some.inj (Tryz.func8.symm.trans hfn)).symm
 refine ⟨by kernel_rfl, fun j t ht => ?_⟩
 rw [Tryz.params8] at ht
 have hm := Array.mem_of_getElem? ht
 have hall : ([70].all fun u => !Tryz.prog.wantsStandIn u) = true := by kernel_rfl
 exact (show Tryz.prog.wantsStandIn t = false by simpa using List.all_eq_true.1 hall t (by simpa using hm))
theorem proved : Rows.NquadsLooseUptoCardSaid :=
 Claim7.holds_tied_plain_at .later [] _ _ _ _ said (fun _ h => by cases h) (by kernel_rfl) (fun _ h => by cases h) nquadsLooseUpto_row_tie rfl ⟨rfl, rfl⟩ (by kernel_rfl) rfl plain (by kernel_rfl)
end Go.Proofs.YtdegonmkikfghaaGreatDoor.nquadsLoose
