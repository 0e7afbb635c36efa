/-
  Proved here: NamesLocals returns true whatever the text. No condition of size (the first form); errors.errorType and the table of the bases are tied to the program text by the given tie.
  By an AI agent.
-/
import Derived.Test.YtfjcbodkjjmagaaDoorCards
import Derived.Test.YtfjcbodkjjmagaaDoorTie
import Derived.Test.YtfjcbodkjjmagaaDoorLaidErr
import Derived.Deep.RegionWith
import Derived.Test.YtfjcbodkjjmagaaDoorLaw
import Derived.Deep.DeepHandedRow
import Derived.Lib.LaidTab
import Derived.SizedLaws
namespace Go.Proofs.YtfjcbodkjjmagaaDoor.namesLocals
open Go.ChangeShapes Go.WideShapes Go.ChangeAt Go.RowKit
open Go.ChangeMaps (open_string)
set_option maxRecDepth 100000

theorem own : ownKnob Tryd.prog.godebug = none := by kernel_rfl
theorem cellsStr : Tryd.prog.cellsOf 9 = 1 := by kernel_rfl
theorem laidOut : laidOutB Tryd.prog = true := by kernel_rfl

set_option maxHeartbeats 1600000 in
theorem walk (l : List UInt8) (w : World) (hl : l.length ≤ 140737488351232) (hT : TabAt w) (hE : ErrType w) :
    Calls Tryd.prog 7 #[.string (B l)] w fun e w' => e = .returned (.bool true) ∧ Below w.heap.size w w' := by
  have C1 := local_l l w hl hT
  have C2 := fun w => refLocal_l l w hl
  have HE := Lib.hid hE
  obtain ⟨x, hx⟩ : ∃ x, locF l 0 = x := ⟨_, rfl⟩
  rw [hx] at C1 C2
  clear hT hE hx
  rcases x with t | ⟨p, n⟩
  · skip
    have R1 : Hid (Calls Tryd.prog 26 #[.string (B l)] w fun e w' => (∃ v, e = .returned (.tuple #[.string (B t), v]) ∧ ErrIs w' v (.inl t)) ∧ Below w.heap.size w w') := Lib.hid C1
    have R2 : Hid (∀ w, Calls Tryd.prog 27 #[.string (B l)] w fun e w' => e = .returned (.tuple #[.string (B t), .agg #[.int .i64 0, .int .i64 0]]) ∧ Below w.heap.size w w') := Lib.hid C2
    have R3 : Hid (∀ (v : Value) (w : World), ErrType w → ErrIs w v (.inl t) → Calls Tryd.prog 28 #[v] w fun e w' => e = .returned (.agg #[.int .i64 0, .int .i64 0]) ∧ Below w.heap.size w w') := Lib.hid (fun v w h h2 => fault_l _ v w h h2)
    have R4 : Hid (∀ (v : Value) (w : World), ErrType w → ErrIs w v (.inl t) → Calls Tryd.prog 28 #[v] w.drew fun e w' => e = .returned (.agg #[.int .i64 0, .int .i64 0]) ∧ Below w.heap.size w w') := Lib.hid (fun v w h h2 => (R3.out v w.drew h (h2.below (Below.refl _ w).drew)).mono fun e w' h => ⟨h.1, (Below.refl w.heap.size w).drew.trans h.2⟩)
    clear C1 C2
    go_enter Tryd.func7, Tryd.ntmps7
    go_wp2_with (first | (go_at_call 26; refine R1.out.mono ?_; rintro e w1 ⟨⟨v, rfl, hv⟩, hb1⟩; have HV1 := Lib.hid hv; clear hv) | (go_at_call 27; refine (R2.out _).mono ?_; rintro e w2 ⟨rfl, hb2⟩; have HV2 := Lib.hid (HV1.out.below hb2); have HB2 := Lib.hid (hb1.trans (hb2.mono hb1.size)); clear hb1 hb2) | fail)
    have hw3 : Below w2.heap.size w2 (w2.alloc (.cells #[.int .i64 0, .int .i64 0] 37)) := (Below.refl _ _).alloc (Nat.le_refl _) _
    have HV3 := Lib.hid (HV2.out.below hw3)
    have HE3 := Lib.hid (HE.out.below (HB2.out.trans (hw3.mono HB2.out.size)))
    have HB3 := Lib.hid (HB2.out.trans (hw3.mono HB2.out.size))
    clear hw3
    go_region_with (go_at_call 28; first | refine (R3.out v _ HE3.out HV3.out).mono ?_ | refine (R4.out v _ HE3.out HV3.out).mono ?_; rintro e w5 ⟨rfl, hb5⟩; have c0 := new_cell hb5 0 _ rfl; have c1 := new_cell hb5 1 _ rfl)
    all_goals go_wp2_with fail
    all_goals (go_simp; go_ret; refine ⟨rfl, ?_⟩; repeat first | exact HB3.out.trans (hb5.mono HB3.out.size) | refine Below.drew ?_)
  · skip
    have R1 : Hid (Calls Tryd.prog 26 #[.string (B l)] w fun e w' => (∃ v, e = .returned (.tuple #[.string ⟨#[]⟩, v]) ∧ ErrIs w' v (.inr (p, n))) ∧ Below w.heap.size w w') := Lib.hid C1
    have R2 : Hid (∀ w, Calls Tryd.prog 27 #[.string (B l)] w fun e w' => e = .returned (.tuple #[.string ⟨#[]⟩, .agg #[.int .i64 (p : Int), .int .i64 n]]) ∧ Below w.heap.size w w') := Lib.hid C2
    have R3 : Hid (∀ (v : Value) (w : World), ErrType w → ErrIs w v (.inr (p, n)) → Calls Tryd.prog 28 #[v] w fun e w' => e = .returned (.agg #[.int .i64 (p : Int), .int .i64 n]) ∧ Below w.heap.size w w') := Lib.hid (fun v w h h2 => fault_l _ v w h h2)
    have R4 : Hid (∀ (v : Value) (w : World), ErrType w → ErrIs w v (.inr (p, n)) → Calls Tryd.prog 28 #[v] w.drew fun e w' => e = .returned (.agg #[.int .i64 (p : Int), .int .i64 n]) ∧ Below w.heap.size w w') := Lib.hid (fun v w h h2 => (R3.out v w.drew h (h2.below (Below.refl _ w).drew)).mono fun e w' h => ⟨h.1, (Below.refl w.heap.size w).drew.trans h.2⟩)
    clear C1 C2
    go_enter Tryd.func7, Tryd.ntmps7
    go_wp2_with (first | (go_at_call 26; refine R1.out.mono ?_; rintro e w1 ⟨⟨v, rfl, hv⟩, hb1⟩; have HV1 := Lib.hid hv; clear hv) | (go_at_call 27; refine (R2.out _).mono ?_; rintro e w2 ⟨rfl, hb2⟩; have HV2 := Lib.hid (HV1.out.below hb2); have HB2 := Lib.hid (hb1.trans (hb2.mono hb1.size)); clear hb1 hb2) | fail)
    have hw3 : Below w2.heap.size w2 (w2.alloc (.cells #[.int .i64 (p : Int), .int .i64 n] 37)) := (Below.refl _ _).alloc (Nat.le_refl _) _
    have HV3 := Lib.hid (HV2.out.below hw3)
    have HE3 := Lib.hid (HE.out.below (HB2.out.trans (hw3.mono HB2.out.size)))
    have HB3 := Lib.hid (HB2.out.trans (hw3.mono HB2.out.size))
    clear hw3
    go_region_with (go_at_call 28; first | refine (R3.out v _ HE3.out HV3.out).mono ?_ | refine (R4.out v _ HE3.out HV3.out).mono ?_; rintro e w5 ⟨rfl, hb5⟩; have c0 := new_cell hb5 0 _ rfl; have c1 := new_cell hb5 1 _ rfl)
    all_goals go_wp2_with fail
    all_goals (go_simp; go_ret; refine ⟨rfl, ?_⟩; repeat first | exact HB3.out.trans (hb5.mono HB3.out.size) | refine Below.drew ?_)

theorem contract (H : Type) (enc : TypeId × Value → H) (W : World) (base : Nat) (args : Array Value) (ds gs : List (DataW H)) (before : List MemPlace)
    (hval : ∀ (j : Nat) t v, Tryd.f7.params[j]? = some t → args[j]? = some v → Value.okWide Tryd.prog W .any base t v)
    (hW : DataW.Whole enc Tryd.prog Tryd.f7.params.toList Rows.namesLocalsSpec.vars false W args.toList ds gs before) (hL : laidMetH Tryd.prog Rows.namesLocalsRow.laid W)
    (hsz : (DataW.weightsEach Tryd.prog (Tryd.f7.params.toList ++ []) (ds ++ gs)).all (· ≤ reachBytes) = true) :
    Calls Tryd.prog 7 args W fun e W' => ∃ v, e = .returned v ∧ Rows.namesLocalsSpec.post enc Tryd.prog Tryd.f7 false true false false W args v W' := by
  have hW' := hW
  obtain ⟨p, q, hA0, hV, rfl, hfz, hnd⟩ := hW
  have hA : DataW.TrodAll enc Tryd.prog W 0 (fun _ => true) true Tryd.f7.params.toList args.toList ds p := hA0
  rw [Tryd.params7] at hA hval
  obtain ⟨v0, vs0, d0, ds0, p0, q0, hargs, rfl, rfl, h0, r0⟩ := trodAll_cons hA
  obtain ⟨rfl, rfl, rfl⟩ := trodAll_nil r0
  obtain rfl : args = #[v0] := by cases args; simp_all
  obtain ⟨rfl, rfl⟩ := trodVars_none hV
  obtain ⟨s0, rfl, rfl, rfl, ws0⟩ := open_string Tryd.underlying9 (hval 0 9 v0 rfl rfl) h0
  obtain ⟨s, rfl, e0, el0⟩ := B_all s0
  have b0 : s.length ≤ reachBytes := by have h := sized_string hsz (j := 0) (t := 9) (by rw [Tryd.params7]; rfl) rfl; rw [e0] at h; exact h
  have hT : TabAt W := tabAt_of_laid (rest := []) (show laidMet Tryd.prog [("tessera/names.basesTable", Rows.laid_tessera_names_basesTable)] W from (show laidMet Tryd.prog [("tessera/names.basesTable", Rows.laid_tessera_names_basesTable)] W ∧ handlesMet Tryd.prog [("errors.errorType", Rows.laid_errors_errorType)] W from hL).1)
  have hE : ErrType W := errType_of_handles (show laidMet Tryd.prog [("tessera/names.basesTable", Rows.laid_tessera_names_basesTable)] W ∧ handlesMet Tryd.prog [("errors.errorType", Rows.laid_errors_errorType)] W from hL).2
  unfold reachBytes at b0
  refine (walk s W (by omega) hT hE).mono fun e W' ⟨he, hg⟩ => ?_
  subst he
  exact ⟨_, rfl, law_post laidOut Tryd.underlying4 rfl (by rw [Tryd.params7]; exact of_decide_eq_true (by kernel_rfl)) rfl rfl hW' hg⟩

theorem laid_met (os : Os) : laidMetH Tryd.prog Rows.namesLocalsRow.laid ((errWorld os).forCall (fun _ _ => 0) ⟨#[], #[.string .empty], []⟩).memory := laidMetH_of_parts (laidMet_of_run' 8 (by kernel_rfl) (by kernel_rfl)) (by kernel_rfl)
theorem reads (os : Os) {H : Type} (enc : TypeId × Value → H) : ∃ places, DataW.whole enc Tryd.prog ((errWorld os).forCall (fun _ _ => 0) ⟨#[], #[(Value.string .empty)], []⟩).memory Tryd.f7.params.toList Rows.namesLocalsSpec.vars false #[Value.string .empty].toList 8 = some ([.lit (.string [])], [], places) :=
  ⟨[], by kernel_rfl⟩
theorem lifted (os : Os) (started : os.Started) (H : Type) (enc : TypeId × Value → H) (F : Stop.Interp) :
    ReturnsInHanded {} Tryd.checked os 7 .any ((OpenSpec.ofChange Rows.namesLocalsSpec).preRow enc Tryd.prog Tryd.f7 Rows.namesLocalsRow.domain false Rows.namesLocalsRow.laid) (((OpenSpec.ofChange Rows.namesLocalsSpec).at F).post enc Tryd.prog Tryd.f7 false true false false) := by
  obtain ⟨places, hx⟩ := reads os enc
  refine returnsInHanded_of_row (C := Tryd.checked) (s := (OpenSpec.ofChange Rows.namesLocalsSpec)) own started (by kernel_rfl) Tryd.func7
    (witness_row_at (enc := enc) (C := Tryd.checked) false (errWorld os) #[.string .empty] rfl (by kernel_rfl) (by kernel_rfl) (by kernel_rfl)
      (OpenSpec.preRow_of_cond 8 hx (by kernel_rfl) (fun k hk => by cases hk) (by kernel_rfl) (laid_met os))) ?_
  intro W base args ds gs before hval hW _ _ hsz hL _ _
  exact contract H enc W base args ds gs before hval hW hL hsz

theorem said : Rows.NamesLocalsSaid :=
  OpenClaim.holds_of_cond 7 Tryd.f7 rfl rfl rfl rfl rfl rfl rfl ⟨rfl, rfl, rfl, rfl, rfl⟩ rfl rfl rfl rfl rfl (by kernel_rfl) Tryd.func7 (by kernel_rfl)
    (of_decide_eq_true (by kernel_rfl)) (by unfold Func.isWrapper; first | (rw [if_pos (by decide +kernel)]; kernel_rfl) | (rw [if_neg (by decide +kernel)]; exact ⟨rfl, rfl⟩))
    (fun os started H enc _ F => by rw [OpenClaim.pre_eq_preRow]; exact lifted os started H enc F)

theorem plain (f : FuncId) (fn : Func) (hf : Tryd.pinned.checked.prog.funcNamed "tessera/tesseralaw06.NamesLocals" = some f) (hfn : Tryd.pinned.checked.prog.funcs[f]? = some fn) :
    true = Tryd.pinned.checked.prog.looks [] ∧ ∀ (j : Nat) t, fn.params[j]? = some t → Tryd.pinned.checked.prog.wantsStandIn t = false := by
  obtain rfl : f = 7 := Option.some.inj ((show Tryd.prog.funcNamed "tessera/tesseralaw06.NamesLocals" = some 7 by kernel_rfl).symm.trans hf) |>.symm
  obtain rfl : fn = Tryd.f7 := (Option.some.inj (Tryd.func7.symm.trans hfn)).symm
  refine ⟨by kernel_rfl, fun j t ht => ?_⟩
  rw [Tryd.params7] at ht
  have hm := Array.mem_of_getElem? ht
  have hall : ([9].all fun u => !Tryd.prog.wantsStandIn u) = true := by kernel_rfl
  exact (show Tryd.prog.wantsStandIn t = false by simpa using List.all_eq_true.1 hall t (by simpa using hm))

theorem proved : Rows.NamesLocalsCardSaid :=
  Claim7.holds_tied_plain_at .later [] _ _ _ _ said (fun _ h => by cases h) (by kernel_rfl) (fun _ h => by cases h) namesLocals_row_tie rfl ⟨rfl, rfl⟩ (by kernel_rfl) rfl plain (by kernel_rfl)

end Go.Proofs.YtfjcbodkjjmagaaDoor.namesLocals
