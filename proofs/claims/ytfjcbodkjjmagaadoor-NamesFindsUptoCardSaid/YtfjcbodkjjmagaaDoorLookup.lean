/-
  names.Lookup: contract. By an AI agent.
-/
import Derived.Test.YtfjcbodkjjmagaaDoorShort
import Derived.Test.YtfjcbodkjjmagaaDoorLower
import Derived.Test.YtfjcbodkjjmagaaDoorSameTexts
namespace Go.Proofs.YtfjcbodkjjmagaaDoor
open Go.RowKit
set_option maxRecDepth 100000

/-- what a search answers: a text and whether there is one -/
def optV (o : Option (List UInt8)) : Value := .tuple #[.string (B (o.getD [])), .bool o.isSome]
theorem optV_none {o : Option (List UInt8)} (h : o = none) : Ending.returned (.tuple #[.string ⟨#[]⟩, .bool false]) = .returned (optV o) := by rw [h]; rfl
theorem optV_some {o : Option (List UInt8)} {t : List UInt8} (h : o = some t) : Ending.returned (.tuple #[.string (B t), .bool true]) = .returned (optV o) := by rw [h]; rfl

def orElse' (o p : Option (List UInt8)) : Option (List UInt8) := match o with | some t => some t | none => p
theorem look_skip {f : List UInt8 → Option (List UInt8)} {l : List (List UInt8)} {k : Nat} (h : k < l.length) (hs : l[k] = [42]) : look f (l.drop k) = look f (l.drop (k + 1)) := by
  rw [List.drop_eq_getElem_cons h, look, if_pos hs]
theorem look_go {f : List UInt8 → Option (List UInt8)} {l : List (List UInt8)} {k : Nat} (h : k < l.length) (hs : l[k] ≠ [42]) : look f (l.drop k) = orElse' (f l[k]) (look f (l.drop (k + 1))) := by
  rw [List.drop_eq_getElem_cons h, look, if_neg hs]
  rfl
theorem look_end {f : List UInt8 → Option (List UInt8)} (l : List (List UInt8)) : look f (l.drop l.length) = none := by rw [List.drop_length]; rfl
theorem findIn_hit {tags : List (List UInt8)} {s : List UInt8} {j : Nat} (h : j < tags.length) (he : lowL tags[j] = s) : findIn (tags.drop j) s = some tags[j] := by
  rw [List.drop_eq_getElem_cons h, findIn, List.find?_cons, beq_iff_eq.2 he]
theorem findIn_step {tags : List (List UInt8)} {s : List UInt8} {j : Nat} (h : j < tags.length) (he : lowL tags[j] ≠ s) : findIn (tags.drop j) s = findIn (tags.drop (j + 1)) s := by
  rw [List.drop_eq_getElem_cons h, findIn, List.find?_cons, beq_eq_false_iff_ne.2 he]
  rfl
theorem findIn_end (tags : List (List UInt8)) (s : List UInt8) : findIn (tags.drop tags.length) s = none := by rw [List.drop_length]; rfl
theorem lowL_length (l : List UInt8) : (lowL l).length = l.length := by simp [lowL]

set_option maxHeartbeats 1600000 in
theorem lookup_l (spans tags : List (List UInt8)) (a1 a2 : Option Addr) (c1 c2 : Nat) (w : World) (hn1 : spans.length ≤ 16777216) (hn2 : tags.length ≤ 16777216)
    (hs : ∀ p ∈ spans, p.length ≤ 16777216) (ht : ∀ p ∈ tags, p.length ≤ 16777216) (h1 : At w a1 (spans.map strV)) (h2 : At w a2 (tags.map strV)) :
    Calls Tryd.prog 38 #[.slice a1 spans.length c1, .slice a2 tags.length c2] w fun e w' => e = .returned (optV (lookN spans tags)) ∧ Below w.heap.size w w' := by
  have LOW := Lib.hid (fun (m : List UInt8) (h : m.length ≤ 16777216) (w : World) => lower_l m w (by unfold maxLen; omega))
  have SHO := Lib.hid shorter_l
  have H1 := Lib.hid h1; have H2 := Lib.hid h2; have HS := Lib.hid hs; have HT := Lib.hid ht
  clear h1 h2 hs ht
  go_enter Tryd.func38, Tryd.ntmps38
  go_wp2
  go_loopw [13] (fun i wr => ∃ k : Nat, k ≤ spans.length ∧ i = .int .i64 k ∧ Hid (lookN spans tags = look (fun sp => chaseN tags (lowL sp)) (spans.drop k)) ∧ Below w.heap.size w wr) (fun i _ => spans.length - (intOf i).toNat)
  case atStart => exact ⟨0, Nat.zero_le _, rfl, by rw [List.drop_zero]; exact rfl, Below.refl _ _⟩
  case round =>
    obtain ⟨k, hk, rfl, HQ, hb⟩ := hrel
    by_cases hlt : k < spans.length
    · obtain ⟨b1, o1, rfl⟩ := H1.out.place (by simp; omega)
      have hc1 := strAt (H1.out.below hb) hlt
      have hl1 := HS.out _ (List.getElem_mem hlt)
      obtain ⟨sp, hsp⟩ : ∃ sp, spans[k] = sp := ⟨_, rfl⟩
      rw [hsp] at hc1 hl1
      have HSP := Lib.hid hsp
      clear hsp
      by_cases hst : sp = [42]
      · have HR := Lib.hid (HQ.out.trans (look_skip hlt (HSP.out.trans hst)))
        have hx : (sp == [42]) = true := beq_iff_eq.2 hst
        clear hst
        go_wp2_with fail
        go_roundw
        case rel => exact ⟨k + 1, by omega, by go_num, HR, hb⟩
        case measure => simp [intOf]; omega
      · have HR := Lib.hid (HQ.out.trans ((look_go hlt (fun e => hst (HSP.out.symm.trans e))).trans (by rw [HSP.out])))
        have hx : (sp == [42]) = false := beq_eq_false_iff_ne.2 hst
        clear hst HQ
        go_wp2_with (go_at_call 34; refine (LOW.out _ (by omega) _).mono ?_; rintro e w1 ⟨rfl, hb1⟩)
        have hb2 := hb.trans (hb1.mono hb.size)
        obtain ⟨wo, rfl⟩ : ∃ wo : World, wo = wr := ⟨_, rfl⟩
        clear hc1
        go_loopw [8] (fun v wr => ∃ m : List UInt8, v = .string (B m) ∧ m.length ≤ 16777216 ∧ Hid (lookN spans tags = orElse' (chaseN tags m) (look (fun sp => chaseN tags (lowL sp)) (spans.drop (k + 1)))) ∧ Below w.heap.size w wr) (fun v _ => strLen v)
        case atStart => exact ⟨_, rfl, by rw [lowL_length]; exact hl1, HR, hb2⟩
        case round =>
          obtain ⟨m, rfl, hm, HQ, hb3⟩ := hrel
          by_cases hm0 : m = []
          · have HR2 := Lib.hid (HQ.out.trans (by rw [hm0, chaseN_nil, orElse']))
            have hx2 : m.isEmpty = true := by rw [hm0]; rfl
            clear hm0 HQ HR
            go_wp2_with fail
            go_roundw
            case rel => exact ⟨k + 1, by omega, by go_num, HR2, hb3⟩
            case measure => simp [intOf]; omega
          · have hx2 : m.isEmpty = false := by rw [List.isEmpty_eq_false_iff]; exact hm0
            have HM := Lib.hid hm0
            have hlen : 0 < m.length := List.length_pos_iff.2 hm0
            clear hm0 HR
            go_wp2_with fail
            obtain ⟨wo2, rfl⟩ : ∃ wo2 : World, wo2 = wr := ⟨_, rfl⟩
            go_loopw [27] (fun i wr => ∃ j : Nat, j ≤ tags.length ∧ i = .int .i64 j ∧ Hid (findIn tags m = findIn (tags.drop j) m) ∧ Below w.heap.size w wr) (fun i _ => tags.length - (intOf i).toNat)
            case atStart => exact ⟨0, Nat.zero_le _, rfl, by rw [List.drop_zero]; exact rfl, hb3⟩
            case round =>
              obtain ⟨j, hj, rfl, HF, hb4⟩ := hrel
              by_cases hlt2 : j < tags.length
              · obtain ⟨b2, o2, rfl⟩ := H2.out.place (by simp; omega)
                have hc2 := strAt (H2.out.below hb4) hlt2
                have hl2 := HT.out _ (List.getElem_mem hlt2)
                obtain ⟨t, ht⟩ : ∃ t, tags[j] = t := ⟨_, rfl⟩
                rw [ht] at hc2 hl2
                have HTG := Lib.hid ht
                clear ht
                by_cases he : lowL t = m
                · have HR3 := Lib.hid (HQ.out.trans (by rw [chaseN_hit HM.out (HF.out.trans (findIn_hit hlt2 (by rw [HTG.out]; exact he))), HTG.out, orElse']))
                  have hx3 : (lowL t == m) = true := beq_iff_eq.2 he
                  clear he HF HQ
                  go_wp2_with (go_at_call 34; refine (LOW.out _ (by omega) _).mono ?_; rintro e w1 ⟨rfl, hb5⟩)
                  go_ret2
                  exact ⟨optV_some HR3.out, hb4.trans (hb5.mono hb4.size)⟩
                · have HF2 := Lib.hid (HF.out.trans (findIn_step hlt2 (fun e => he (by rw [← HTG.out]; exact e))))
                  have hx3 : (lowL t == m) = false := beq_eq_false_iff_ne.2 he
                  clear he HF
                  go_wp2_with (go_at_call 34; refine (LOW.out _ (by omega) _).mono ?_; rintro e w1 ⟨rfl, hb5⟩)
                  go_roundw
                  case rel => exact ⟨j + 1, by omega, by go_num, HF2, hb4.trans (hb5.mono hb4.size)⟩
                  case measure => simp [intOf]; omega
              · obtain rfl : j = tags.length := by omega
                have HR3 := Lib.hid (HQ.out.trans (by rw [chaseN_miss HM.out (HF.out.trans (findIn_end _ _))]))
                have hsl := shorterL_length m HM.out
                clear HF HQ
                go_wp2_with (go_at_call 84; refine (SHO.out _ _ (by omega)).mono ?_; rintro e w1 ⟨rfl, rfl⟩)
                go_roundw
                case rel => exact ⟨_, rfl, by omega, HR3, hb4⟩
                case measure => simp [strLen, B_size]; omega
    · obtain rfl : k = spans.length := by omega
      have HR := Lib.hid (HQ.out.trans (look_end spans))
      clear HQ
      go_wp2_with fail
      go_ret2
      exact ⟨optV_none HR.out, hb⟩
end Go.Proofs.YtfjcbodkjjmagaaDoor
