/-
  Proved here: VocabEntries returns true whatever the term, the number and the text. Condition: what comes in, with the tables, is of bulk at most 1048576 (the second form); the table of the bases and the two tables of unicode/utf8 are tied to the program text by the given tie.
  By an AI agent.
-/
import Derived.Test.YtfocpjcbfbbpgaaGreatDoorCards
import Derived.Test.YtfocpjcbfbbpgaaGreatDoorTie
import Derived.Test.YtfocpjcbfbbpgaaGreatDoorZEntriesWalk
import Derived.Test.YtfocpjcbfbbpgaaGreatDoorZLaw
import Derived.Lib.SmallJoins
import Derived.Deep.DeepHandedRow
import Derived.Lib.LaidTab
import Derived.SizedLaws
namespace Go.Proofs.YtfocpjcbfbbpgaaGreatDoor.vocabEntries
open Go.ChangeShapes Go.WideShapes Go.ChangeAt Go.RowKit Go.Joins Go.Deep
open Go.ChangeMaps (open_string)
set_option maxRecDepth 100000
theorem own : ownKnob Tryz.prog.godebug = none := by kernel_rfl
theorem cellsStr : Tryz.prog.cellsOf 9 = 1 := by kernel_rfl
theorem laidOut : laidOutB Tryz.prog = true := by kernel_rfl
theorem contract (H : Type) (enc : TypeId × Value -> H) (W : World) (base : Nat) (args : Array Value) (ds gs : List (DataW H)) (before : List MemPlace)
   (hval : ∀ (j : Nat) t v, Tryz.f3.params[j]? = some t -> args[j]? = some v -> Value.okWide Tryz.prog W .any base t v)
   (hW : DataW.Whole enc Tryz.prog Tryz.f3.params.toList Rows.vocabEntriesSpec.vars false W args.toList ds gs before) (hL : laidMetH Tryz.prog Rows.vocabEntriesUptoRow.laid W)
   (hsz : (DataW.weightsEach Tryz.prog (Tryz.f3.params.toList ++ []) (ds ++ gs)).all (· <= reachBytes) = true) (hsh : W.ShapedOpen Tryz.prog) (hk : Rows.uptoSmall H (ds ++ gs) = true) :
   Calls Tryz.prog 3 args W fun e W' => ∃ v, e = .returned v /\ Rows.vocabEntriesSpec.post enc Tryz.prog Tryz.f3 false true false false W args v W' := by
 have hW' := hW
 obtain ⟨p, q, hA0, hV, rfl, hfz, hnd⟩ := hW
 have hA : DataW.TrodAll enc Tryz.prog W 0 (fun _ => true) true Tryz.f3.params.toList args.toList ds p := hA0
 rw [Tryz.params3] at hA hval
 obtain ⟨v0, vs0, d0, ds0, p0, q0, hargs, rfl, rfl, h0, r0⟩ := trodAll_cons hA
 obtain ⟨v1, vs1, d1, ds1, p1, q1, rfl, rfl, rfl, h1, r1⟩ := trodAll_cons r0
 obtain ⟨v2, vs2, d2, ds2, p2, q2, rfl, rfl, rfl, h2, r2⟩ := trodAll_cons r1
 obtain ⟨rfl, rfl, rfl⟩ := trodAll_nil r2
 obtain rfl : args = #[v0, v1, v2] := by cases args; simp_all
 obtain ⟨rfl, rfl⟩ := trodVars_none hV
 have hb := bulk_of hk
 simp only [List.append_nil, Rows.uptoBulkAll] at hb
 obtain ⟨tm, rfl, rfl⟩ := open_term (hval 0 23 v0 rfl rfl) h0
 have bq0 := bulk_term (H := H) tm
 obtain ⟨kind, rfl, rfl, rfl, wn1⟩ := open_int Tryz.underlying3 (hval 1 3 v1 rfl rfl) h1
 have b1 : -9223372036854775808 <= kind /\ kind <= 9223372036854775807 := bounds_i64 wn1
 obtain ⟨s2, rfl, rfl, rfl, ws2⟩ := open_string Tryz.underlying9 (hval 2 9 v2 rfl rfl) h2
 obtain ⟨la, rfl, e2, el2⟩ := B_all s2
 have b2 : la.length <= 1048576 := by simp only [bulk_text, e2] at hb; omega
 have hM : MaxAt W := maxAt_of_shaped hsh
 have hT : TabAt W := tabAt_of_laid (laidMet_tail (show laidMet Tryz.prog [("unicode/utf8.acceptRanges", Rows.laid_unicode_utf8_acceptRanges), ("tessera/names.basesTable", Rows.laid_tessera_names_basesTable), ("unicode/utf8.first", Rows.laid_unicode_utf8_first)] W from hL))
 refine (entries_walk tm kind la W hT hM (by omega) (by omega) (by omega) b2).mono fun e W' ⟨he, hg⟩ => ?_
 subst he
 exact ⟨_, rfl, law_post laidOut Tryz.underlying4 rfl (by rw [Tryz.params3]; exact of_decide_eq_true (by kernel_rfl)) rfl rfl hW' hg⟩
theorem laid_met (os : Os) : laidMetH Tryz.prog Rows.vocabEntriesUptoRow.laid ((tablesWorld os).forCall (fun _ _ => 0) ⟨#[], #[.agg #[.int .i64 0, .string .empty, .string .empty, .string .empty], .int .i64 0, .string .empty], []⟩).memory := laidMet_of_run' 8 (by kernel_rfl) (by kernel_rfl)
theorem reads (os : Os) {H : Type} (enc : TypeId × Value -> H) : ∃ places, DataW.whole enc Tryz.prog ((tablesWorld os).forCall (fun _ _ => 0) ⟨#[], #[(Value.agg #[.int .i64 0, .string .empty, .string .empty, .string .empty]), (Value.int .i64 0), (Value.string .empty)], []⟩).memory Tryz.f3.params.toList Rows.vocabEntriesSpec.vars false #[Value.agg #[.int .i64 0, .string .empty, .string .empty, .string .empty], Value.int .i64 0, Value.string .empty].toList 8 = some ([.agg [.lit (.int .i64 0), .lit (.string []), .lit (.string []), .lit (.string [])], .lit (.int .i64 0), .lit (.string [])], [], places) :=
 ⟨[], by kernel_rfl⟩
theorem lifted (os : Os) (started : os.Started) (H : Type) (enc : TypeId × Value -> H) (F : Stop.Interp) :
   ReturnsInHanded {} Tryz.checked os 3 .any ((Rows.OpenSpec.upto Rows.vocabEntriesSpec).preRow enc Tryz.prog Tryz.f3 Rows.vocabEntriesUptoRow.domain false Rows.vocabEntriesUptoRow.laid) (((Rows.OpenSpec.upto Rows.vocabEntriesSpec).at F).post enc Tryz.prog Tryz.f3 false true false false) := by
 obtain ⟨places, hx⟩ := reads os enc
 refine returnsInHanded_of_row (C := Tryz.checked) (s := (Rows.OpenSpec.upto Rows.vocabEntriesSpec)) own started (by kernel_rfl) Tryz.func3
   (witness_row_at (enc := enc) (C := Tryz.checked) false (tablesWorld os) #[.agg #[.int .i64 0, .string .empty, .string .empty, .string .empty], .int .i64 0, .string .empty] rfl (by kernel_rfl) (by kernel_rfl) (by kernel_rfl)
     (OpenSpec.preRow_of_cond 8 hx (by kernel_rfl) (fun k hk => by cases hk; kernel_rfl) (by kernel_rfl) (laid_met os))) ?_
 intro W base args ds gs before hval hW _ hcond hsz hL hsh _
 exact contract H enc W base args ds gs before hval hW hL hsz hsh (hcond _ rfl)
theorem said : Rows.VocabEntriesUptoSaid :=
 OpenClaim.holds_of_cond 3 Tryz.f3 rfl rfl rfl rfl rfl rfl rfl ⟨rfl, rfl, rfl, rfl, rfl⟩ rfl rfl rfl rfl rfl (by kernel_rfl) Tryz.func3 (by kernel_rfl)
   (of_decide_eq_true (by kernel_rfl)) (by unfold Func.isWrapper; first | (rw [if_pos (by decide +kernel)]; kernel_rfl) | (rw [if_neg (by decide +kernel)]; exact ⟨rfl, rfl⟩))
   (fun os started H enc _ F => by rw [OpenClaim.pre_eq_preRow]; exact lifted os started H enc F)
theorem plain (f : FuncId) (fn : Func) (hf : Tryz.pinned.checked.prog.funcNamed "tessera/tesseralaw17.VocabEntries" = some f) (hfn : Tryz.pinned.checked.prog.funcs[f]? = some fn) :
   true = Tryz.pinned.checked.prog.looks [] /\ ∀ (j : Nat) t, fn.params[j]? = some t -> Tryz.pinned.checked.prog.wantsStandIn t = false := by
 obtain rfl : f = 3 := Option.some.inj ((show Tryz.prog.funcNamed "tessera/tesseralaw17.VocabEntries" = some 3 by kernel_rfl).symm.trans hf) |>.symm
 obtain rfl : fn = Tryz.f3 := (Option.some.inj (Tryz.func3.symm.trans hfn)).symm
 refine ⟨by kernel_rfl, fun j t ht => ?_⟩
 rw [Tryz.params3] at ht
 have hm := Array.mem_of_getElem? ht
 have hall : ([23, 3, 9].all fun u => !Tryz.prog.wantsStandIn u) = true := by kernel_rfl
 exact (show Tryz.prog.wantsStandIn t = false by simpa using List.all_eq_true.1 hall t (by simpa using hm))
theorem proved : Rows.VocabEntriesUptoCardSaid :=
 Claim7.holds_tied_plain_at .later [] _ _ _ _ said (fun _ h => by cases h) (by kernel_rfl) (fun _ h => by cases h) vocabEntriesUpto_row_tie rfl ⟨rfl, rfl⟩ (by kernel_rfl) rfl plain (by kernel_rfl)
end Go.Proofs.YtfocpjcbfbbpgaaGreatDoor.vocabEntries
