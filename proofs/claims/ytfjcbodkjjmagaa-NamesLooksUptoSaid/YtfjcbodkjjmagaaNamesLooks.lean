/-
  Proved here: NamesLooks returns true whatever the spans and the tags, and leaves them as they were.
  Condition: what comes in is of bulk at most 1048576 (the second form, UptoSaid).
  By an AI agent.
-/
import Derived.Test.YtfjcbodkjjmagaaRefLookup
import Derived.Test.YtfjcbodkjjmagaaLaw
import Derived.Test.YtfjcbodkjjmagaaBulk
namespace Go.Proofs.Ytfjcbodkjjmagaa.namesLooks
open Go.ChangeShapes Go.WideShapes Go.ChangeAt Go.RowKit
set_option maxRecDepth 100000

theorem own : ownKnob Try.prog.godebug = none := by kernel_rfl
theorem cellsStr : Try.prog.cellsOf 9 = 1 := by kernel_rfl
theorem laidOut : laidOutB Try.prog = true := by kernel_rfl

set_option maxHeartbeats 1600000 in
theorem walk (spans tags : List (List UInt8)) (a1 a2 : Option Addr) (c1 c2 : Nat) (w : World) (hn1 : spans.length ≤ 16777215) (hn2 : tags.length ≤ 16777215)
    (hs : ∀ p ∈ spans, p.length ≤ 16777215) (ht : ∀ p ∈ tags, p.length ≤ 16777215) (h1 : At w a1 (spans.map strV)) (h2 : At w a2 (tags.map strV)) :
    Calls Try.prog 3 #[.slice a1 spans.length c1, .slice a2 tags.length c2] w fun e w' => e = .returned (.bool true) ∧ Below w.heap.size w w' := by
  have H1 := Lib.hid h1; have H2 := Lib.hid h2; have HS := Lib.hid hs; have HT := Lib.hid ht
  clear h1 h2 hs ht
  obtain ⟨o, ho⟩ : ∃ o, lookN spans tags = o := ⟨_, rfl⟩
  have LOOK := Lib.hid (fun a1 a2 c1 c2 (wx : World) (x1 : At wx a1 (spans.map strV)) (x2 : At wx a2 (tags.map strV)) => ho ▸ lookup_l spans tags a1 a2 c1 c2 wx (by omega) (by omega) (fun p hp => by have := HS.out p hp; omega) (fun p hp => by have := HT.out p hp; omega) x1 x2)
  have REF := Lib.hid (fun a1 a2 c1 c2 (wx : World) (x1 : At wx a1 (spans.map strV)) (x2 : At wx a2 (tags.map strV)) => ((look_eq spans tags).trans ho) ▸ refLookup_l spans tags a1 a2 c1 c2 wx hn1 hn2 HS.out HT.out x1 x2)
  clear ho
  have LENT := Lib.hid lent_any; have BACK := Lib.hid back_yes
  go_enter Try.func3, Try.ntmps3
  go_wp2_with fail
  refine (LENT.out spans _ _ _ (by omega) H1.out).mono ?_
  rintro e w1 ⟨v1, rfl, L1, hb1⟩
  go_wp2_with fail
  refine (LENT.out tags _ _ _ (by omega) (H2.out.below hb1)).mono ?_
  rintro e w2 ⟨v2, rfl, L2, hb2⟩
  replace L1 := L1.below hb2
  replace hb2 := hb1.trans (hb2.mono hb1.size)
  clear hb1
  obtain ⟨g1, hg1, rfl, A1⟩ := L1
  obtain ⟨g2, hg2, rfl, A2⟩ := L2
  have A1p : At w2 (some ⟨g1, 0, none⟩) (spans.map strV) := by have := A1.take spans.length; rw [List.map_append, List.take_left' (by simp)] at this; exact this
  have A2p : At w2 (some ⟨g2, 0, none⟩) (tags.map strV) := by have := A2.take tags.length; rw [List.map_append, List.take_left' (by simp)] at this; exact this
  have X1 := Lib.hid A1; have X2 := Lib.hid A2; have Y1 := Lib.hid A1p; have Y2 := Lib.hid A2p
  clear A1 A2 A1p A2p
  go_wp2_with fail
  refine (LOOK.out _ _ _ _ _ Y1.out Y2.out).mono ?_
  rintro e w3 ⟨rfl, hb3⟩
  unfold optV
  go_wp2_with fail
  refine (REF.out _ _ _ _ _ ((H1.out.below hb2).below hb3) ((H2.out.below hb2).below hb3)).mono ?_
  rintro e w4 ⟨rfl, hb4⟩
  unfold optV
  have hb5 := hb3.trans (hb4.mono hb3.size)
  have K1 := Lib.hid (X1.out.below hb5); have K2 := Lib.hid (X2.out.below hb5); have J1 := Lib.hid ((H1.out.below hb2).below hb5); have J2 := Lib.hid ((H2.out.below hb2).below hb5)
  go_wp2_with fail
  refine (BACK.out spans _ 0 _ _ _ (by omega) ⟨g1, by omega, rfl, K1.out⟩ J1.out).mono ?_
  rintro e w5 ⟨rfl, n1, rfl⟩
  go_wp2_with fail
  refine (BACK.out tags _ 0 _ _ _ (by omega) ⟨g2, by omega, rfl, K2.out.drewN n1⟩ (J2.out.drewN n1)).mono ?_
  rintro e w6 ⟨rfl, n2, rfl⟩
  go_wp2_with fail
  go_ret
  exact ⟨rfl, below_drewN (hb2.trans (hb5.mono hb2.size)) _⟩

theorem contract (H : Type) (enc : TypeId × Value → H) (W : World) (base : Nat) (args : Array Value) (ds gs : List (DataW H)) (before : List MemPlace)
    (hval : ∀ (j : Nat) t v, Try.f3.params[j]? = some t → args[j]? = some v → Value.okWide Try.prog W .any base t v)
    (hW : DataW.Whole enc Try.prog Try.f3.params.toList Rows.namesLooksSpec.vars false W args.toList ds gs before) (hk : Rows.uptoSmall H (ds ++ gs) = true) :
    Calls Try.prog 3 args W fun e W' => ∃ v, e = .returned v ∧ Rows.namesLooksSpec.post enc Try.prog Try.f3 false true false false W args v W' := by
  have hW' := hW
  obtain ⟨p, q, hA0, hV, rfl, hfz, hnd⟩ := hW
  have hA : DataW.TrodAll enc Try.prog W 0 (fun _ => true) true Try.f3.params.toList args.toList ds p := hA0
  rw [Try.params3] at hA hval
  obtain ⟨v0, vs0, d0, ds0, p0, q0, hargs, rfl, rfl, h0, r0⟩ := trodAll_cons hA
  obtain ⟨v1, vs1, d1, ds1, p1, q1, rfl, rfl, rfl, h1, r1⟩ := trodAll_cons r0
  obtain ⟨rfl, rfl, rfl⟩ := trodAll_nil r1
  obtain rfl : args = #[v0, v1] := by cases args; simp_all
  obtain ⟨rfl, rfl⟩ := trodVars_none hV
  have hb := bulk_of hk
  simp only [List.append_nil, Rows.uptoBulkAll] at hb
  obtain ⟨a1, c1, spans, rfl, A1, D1⟩ := open_texts Try.underlying22 Try.underlying9 cellsStr (hval 0 22 v0 rfl rfl) h0
  obtain ⟨a2, c2, tags, rfl, A2, D2⟩ := open_texts Try.underlying22 Try.underlying9 cellsStr (hval 1 22 v1 rfl rfl) h1
  have b1 := bulk_text_arg D1
  have b2 := bulk_text_arg D2
  have l1 := lens_length spans
  have l2 := lens_length tags
  refine (walk spans tags a1 a2 c1 c2 W (by omega) (by omega) (fun p hp => by have := lens_mem hp; omega) (fun p hp => by have := lens_mem hp; omega) A1 A2).mono fun e W' ⟨he, hg⟩ => ?_
  subst he
  exact ⟨_, rfl, law_post laidOut Try.underlying4 rfl (by rw [Try.params3]; exact of_decide_eq_true (by kernel_rfl)) rfl rfl hW' hg⟩

theorem lifted (os : Os) (started : os.Started) (H : Type) (enc : TypeId × Value → H) (F : Stop.Interp) :
    ReturnsInHanded {} Try.checked os 3 .any ((Rows.OpenSpec.upto Rows.namesLooksSpec).pre6 enc Try.prog Try.f3 Rows.namesLooksUptoRow.domain false) (((Rows.OpenSpec.upto Rows.namesLooksSpec).at F).post enc Try.prog Try.f3 false true false false) := by
  refine returnsInHanded_of_cond (C := Try.checked) (s := Rows.OpenSpec.upto Rows.namesLooksSpec) (k := Rows.uptoSmall) rfl own started (by kernel_rfl) Try.func3
    (OpenSpec.witness (enc := enc) (C := Try.checked) (s := Rows.OpenSpec.upto Rows.namesLooksSpec) (k := Rows.uptoSmall) rfl false ⟨#[], #[.slice none 0 0, .slice none 0 0], []⟩ 8 (by kernel_rfl) (by kernel_rfl) (by kernel_rfl) (by kernel_rfl)
      (x := ([.nil, .nil], [], [])) (by kernel_rfl) rfl (by kernel_rfl)) ?_
  intro W base args ds gs before hval hW _ hk _
  exact contract H enc W base args ds gs before hval hW hk

theorem proved : Rows.NamesLooksUptoSaid :=
  OpenClaim.holds_of_cond 3 Try.f3 rfl rfl rfl rfl rfl rfl rfl ⟨rfl, rfl, rfl, rfl, rfl⟩ rfl rfl rfl rfl rfl (by kernel_rfl) Try.func3 (by kernel_rfl)
    (of_decide_eq_true (by kernel_rfl)) (by unfold Func.isWrapper; first | (rw [if_pos (by decide +kernel)]; kernel_rfl) | (rw [if_neg (by decide +kernel)]; exact ⟨rfl, rfl⟩))
    (fun os started H enc _ F => lifted os started H enc F)
end Go.Proofs.Ytfjcbodkjjmagaa.namesLooks
