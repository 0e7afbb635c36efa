/-
  tesseralaw10.LexisEnds: the walk. By an AI agent.
-/
import Derived.Test.YtdhmpakhdhdebaaGreatDoorZLexW22
namespace Go.Proofs.YtdhmpakhdhdebaaGreatDoor
open Go.RowKit
set_option maxRecDepth 100000
theorem TView.below {w w' : World} {v : Value} {l : List TokL} (h : TView w v l) (hb : Below w.heap.size w w') : TView w' v l := by
 obtain ⟨a, cap, rfl, hc, hq⟩ := h
 exact ⟨a, cap, rfl, hc, hq.below hb⟩
theorem toksF_less (l : List UInt8) : ∀ (c i : Nat), l.length - i <= c -> i <= l.length -> (toksF l true i).2 ≠ none
 | c, i, hc, hi => by
   obtain ⟨x, hx⟩ : ∃ x, stepG l true i = x := ⟨_, rfl⟩
   rcases x with t | f
   · have hk : t.kind ≠ 0 := ((step_at (less := true) hi).1 t hx).2 rfl
     obtain ⟨h, h1, h2, _⟩ := toksF_go hi hx hk
     rw [h]
     match c, hc with
     | 0, hc => omega
     | c + 1, hc => exact toksF_less l c t.fin.toNat (by omega) h2
   · rw [toksF_bad hx]; simp
def allR (s : List UInt8) : List TokL × Option (Nat × Int) := toksF (headL s) (lessB s) 0
theorem allR_ok {s : List UInt8} (h : (allR s).2 = none) : utfF s 0 = -1 /\ allR s = toksF s false 0 := by
 unfold allR at h ⊢
 cases hl : lessB s with
 | true => rw [hl] at h; exact absurd h (toksF_less _ _ 0 (Nat.le_refl _) (Nat.zero_le _))
 | false =>
   have hu : utfF s 0 = -1 := by
     unfold lessB at hl
     simpa using hl
   refine ⟨hu, ?_⟩
   rw [show headL s = s from if_pos hu]
theorem allR_of {s : List UInt8} (h : utfF s 0 = -1) : allR s = toksF s false 0 := by
 unfold allR
 rw [show headL s = s from if_pos h, show lessB s = false from by unfold lessB; rw [h]; rfl]
theorem allR_ends {s : List UInt8} (h : (allR s).2 = none) : allR (s ++ [32]) = allR s := by
 obtain ⟨hu, hr⟩ := allR_ok h
 rw [hr] at h
 obtain ⟨h1, h2⟩ := ends_law hu h
 rw [allR_of h1, hr, h2]
theorem ends_few (s : List UInt8) : (allR s).1.length <= s.length := by
 have h1 := toksF_few (headL s) (lessB s) (headL s).length 0 (by omega) (by omega)
 have h2 := head_len s
 unfold allR
 omega
theorem all_ok {s : List UInt8} {w : World} (h : (allR s).2 = none) (hl : s.length <= 4194304) (hT : TabAt w) (hM : MaxAt w) : Calls Tryz.prog 18 #[.string (B s)] w fun e w' => (∃ a cap, e = .returned (.tuple #[.slice a (allR s).1.length cap, .nilIface]) /\ (allR s).1.length <= cap /\ At w' a (toksC (allR s).1)) /\ Below w.heap.size w w' := by
 refine (lexAll_l s w hl hT hM).mono ?_
 rintro e w' ⟨hp, hb⟩
 refine ⟨?_, hb⟩
 rcases hp with ⟨_, v, rfl, ho⟩ | ⟨q, ev, h1, _⟩
 · obtain ⟨a, cap, rfl, hc, hat⟩ := TOwn.view ho
   exact ⟨a, cap, rfl, hc, hat⟩
 · unfold allR at h; rw [h1] at h; cases h
theorem all_not {s : List UInt8} {w : World} (h : (allR s).2 ≠ none) (hl : s.length <= 4194304) (hT : TabAt w) (hM : MaxAt w) : Calls Tryz.prog 18 #[.string (B s)] w fun e w' => (∃ x, e = .returned (.tuple #[.slice none 0 0, .iface 91 x])) /\ Below w.heap.size w w' := by
 refine (lexAll_l s w hl hT hM).mono ?_
 rintro e w' ⟨hp, hb⟩
 refine ⟨?_, hb⟩
 rcases hp with ⟨h1, _⟩ | ⟨⟨p, N⟩, ev, _, rfl, b, rfl, _⟩
 · exact absurd h1 h
 · exact ⟨_, rfl⟩
set_option maxHeartbeats 3200000 in
theorem lexEnds_walk (s : List UInt8) (w : World) (hl : s.length <= 1048576) (hT : TabAt w) (hM : MaxAt w) :
   Calls Tryz.prog 5 #[.string (B s)] w fun e w' => e = .returned (.bool true) /\ Below w.heap.size w w' := by
 have WK := Lib.hid (works_l w hT hM)
 have HTM := Lib.hid (And.intro hT hM)
 have y1 : decide ((67108864 : Int) <= (s.length : Int)) = false := decide_eq_false (by omega)
 have hcat : B s ++ { data := #[32] } = B (s ++ [32]) := B_append s [32]
 clear hT hM
 go_enter Tryz.func5, Tryz.ntmps5
 go_wp2_with (go_at_call 17; (with_reducible refine WK.out.mono ?_); rintro e w1 ⟨rfl, hb1⟩; have HB1 := Lib.hid hb1; clear hb1)
 by_cases hr : (allR s).2 = none
 · have A1 := all_ok hr (w := w1) (by omega) (HTM.out.1.below HB1.out) (HTM.out.2.below HB1.out)
   have hE := allR_ends hr
   have hr2 : (allR (s ++ [32])).2 = none := by rw [hE]; exact hr
   have hfew := ends_few s
   have A2 := Lib.hid (fun (u : World) (hu : Below w1.heap.size w1 u) => hE ▸ all_ok hr2 (w := u) (by simp; omega) (HTM.out.1.below (HB1.out.trans (hu.mono HB1.out.size))) (HTM.out.2.below (HB1.out.trans (hu.mono HB1.out.size))))
   clear hE hr hr2
   refine A1.mono ?_
   clear A1
   generalize (allR s).1 = ts at A2 hfew ⊢
   rintro e w2 ⟨⟨a, cap, rfl, hc, hat⟩, hb⟩
   have HA := Lib.hid hat
   have HB2 := Lib.hid hb
   clear hat hb
   go_wp2_with fail
   refine (A2.out w2 HB2.out).mono ?_
   clear A2
   rintro e w3 ⟨⟨b, cb, rfl, hcb, hatb⟩, hb⟩
   have ST := Lib.hid (sameTokens_l ts (.slice b ts.length cb) (.slice a ts.length cap) w3 ⟨b, cb, rfl, hcb, hatb⟩ ⟨a, cap, rfl, hc, HA.out.below hb⟩ (by omega))
   have HB3 := Lib.hid ((HB1.out.trans (HB2.out.mono HB1.out.size)).trans (hb.mono (Nat.le_trans HB1.out.size HB2.out.size)))
   clear hb hatb
   go_wp2_with (go_at_call 21; (with_reducible refine ST.out.mono ?_); rintro e w4 ⟨rfl, n, rfl⟩)
   go_ret
   exact ⟨rfl, below_drewN_h HB3.out _⟩
 · have A1 := all_not hr (w := w1) (by omega) (HTM.out.1.below HB1.out) (HTM.out.2.below HB1.out)
   refine A1.mono ?_
   clear A1 hr
   rintro e w2 ⟨⟨x, rfl⟩, hb⟩
   have HB2 := Lib.hid hb
   clear hb
   go_wp2_with fail
   go_ret
   exact ⟨rfl, HB1.out.trans (HB2.out.mono HB1.out.size)⟩
end Go.Proofs.YtdhmpakhdhdebaaGreatDoor
