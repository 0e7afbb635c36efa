/-
  The reference's Lookup: contract. By an AI agent.
-/
import Derived.Test.YtfjcbodkjjmagaaLookup
import Derived.Test.YtfjcbodkjjmagaaJoined
namespace Go.Proofs.Ytfjcbodkjjmagaa
open Go.RowKit
set_option maxRecDepth 100000

theorem refJoined_n (ls : List (List UInt8)) (n : Nat) (hln : ls.length = n) (a : Option Addr) (c : Nat) (w : World) (hn : n ≤ 16777216) (hj : (joinD ls).length ≤ 16777216) (h1 : At w a (ls.map strV)) :
    Calls Try.prog 15 #[.slice a n c] w fun e w' => e = .returned (.string (B (joinD ls))) ∧ Below w.heap.size w w' := by
  subst hln
  exact refJoined_l ls a c w hn hj h1
theorem chaseR_nil (tags : List (List UInt8)) : chaseR tags [] = none := by rw [chaseR]
theorem chaseR_empty (tags : List (List UInt8)) {l : List (List UInt8)} (h : joinD l = []) : chaseR tags l.reverse = none := by
  rcases List.eq_nil_or_concat l with rfl | ⟨qs, p, rfl⟩
  · rw [List.reverse_nil, chaseR_nil]
  · have h' : joinD (p :: qs.reverse).reverse = [] := by simpa [List.concat_eq_append] using h
    rw [List.concat_eq_append, List.reverse_append, List.reverse_singleton, List.singleton_append, chaseR, if_pos h']
theorem chaseR_hit {tags qs : List (List UInt8)} {p t : List UInt8} (h : joinD (qs ++ [p]) ≠ []) (hf : findIn tags (lowL (joinD (qs ++ [p]))) = some t) : chaseR tags (qs ++ [p]).reverse = some t := by
  have e : (p :: qs.reverse).reverse = qs ++ [p] := by simp
  rw [List.reverse_append, List.reverse_singleton, List.singleton_append, chaseR, e, if_neg h, hf]
theorem chaseR_miss {tags qs : List (List UInt8)} {p : List UInt8} (h : joinD (qs ++ [p]) ≠ []) (hf : findIn tags (lowL (joinD (qs ++ [p]))) = none) : chaseR tags (qs ++ [p]).reverse = chaseR tags (trimR qs.reverse) := by
  have e : (p :: qs.reverse).reverse = qs ++ [p] := by simp
  rw [List.reverse_append, List.reverse_singleton, List.singleton_append, chaseR, e, if_neg h, hf]
theorem trimR_go {rs : List (List UInt8)} {q : List UInt8} (h : rs ≠ []) (hq : q.length = 1) : trimR (rs ++ [q]).reverse = trimR rs.reverse := by
  have hr : rs.reverse ≠ [] := by simpa using h
  rw [List.reverse_append, List.reverse_singleton, List.singleton_append]
  match hp : rs.reverse, hr with
  | x :: r, _ => rw [trimR, if_pos hq]
theorem trimR_stop {rs : List (List UInt8)} {q : List UInt8} (hq : q.length ≠ 1) : trimR (rs ++ [q]).reverse = (rs ++ [q]).reverse := by
  rw [List.reverse_append, List.reverse_singleton, List.singleton_append]
  match rs.reverse with
  | [] => rfl
  | x :: r => rw [trimR, if_neg hq]
theorem trimR_short {qs : List (List UInt8)} (h : qs.length ≤ 1) : trimR qs.reverse = qs.reverse := by
  match qs, h with
  | [], _ => rfl
  | [q], _ => rfl
theorem joinD_prefix (qs : List (List UInt8)) (p : List UInt8) : (joinD qs).length ≤ (joinD (qs ++ [p])).length := by
  by_cases h : qs = []
  · subst h; exact Nat.zero_le _
  · rw [joinD_snoc _ _ h]; simp
theorem mem_join_le : ∀ (l : List (List UInt8)) (p : List UInt8), p ∈ l → p.length ≤ (joinD l).length
  | [], p, h => by cases h
  | [q], p, h => by simp at h; subst h; exact Nat.le_refl _
  | q :: x :: r, p, h => by
    have := mem_join_le (x :: r) p
    rw [joinD]
    rcases List.mem_cons.1 h with rfl | h
    · simp
    · have := this h; simp; omega
/-- the last cell -/
theorem lastAt {w : World} {b o n : Nat} {qs : List (List UInt8)} {p : List UInt8} (h : At w (some ⟨b, o, none⟩) ((qs ++ [p]).map strV)) (hn : (qs ++ [p]).length = n) : w.cell? ⟨b, o + (n - 1), none⟩ = some (.string (B p)) := by
  subst hn
  have := strAt h (k := qs.length) (by simp)
  simpa using this
theorem At.pre {w : World} {a : Option Addr} {qs : List (List UInt8)} {p : List UInt8} (h : At w a ((qs ++ [p]).map strV)) : At w a (qs.map strV) := by
  have := h.take qs.length
  rw [List.map_append, List.take_left' (by simp)] at this
  exact this

set_option maxHeartbeats 1600000 in
theorem refLookup_l (spans tags : List (List UInt8)) (a1 a2 : Option Addr) (c1 c2 : Nat) (w : World) (hn1 : spans.length ≤ 16777215) (hn2 : tags.length ≤ 16777215)
    (hs : ∀ p ∈ spans, p.length ≤ 16777215) (ht : ∀ p ∈ tags, p.length ≤ 16777215) (h1 : At w a1 (spans.map strV)) (h2 : At w a2 (tags.map strV)) :
    Calls Try.prog 7 #[.slice a1 spans.length c1, .slice a2 tags.length c2] w fun e w' => e = .returned (optV (lookR spans tags)) ∧ Below w.heap.size w w' := by
  have LOW := Lib.hid (fun (m : List UInt8) (h : m.length ≤ 16777216) (w : World) => refLower_l m w (by unfold maxLen; omega))
  have PAR := Lib.hid refParts_l
  have JOI := Lib.hid refJoined_n
  have H1 := Lib.hid h1; have H2 := Lib.hid h2; have HS := Lib.hid hs; have HT := Lib.hid ht
  clear h1 h2 hs ht
  go_enter Try.func7, Try.ntmps7
  go_wp2
  go_loopw [6] (fun i wr => ∃ k : Nat, k ≤ spans.length ∧ i = .int .i64 k ∧ Hid (lookR spans tags = look (fun sp => chaseR tags (partsOf sp).reverse) (spans.drop k)) ∧ Below w.heap.size w wr) (fun i _ => spans.length - (intOf i).toNat)
  case atStart => exact ⟨0, Nat.zero_le _, rfl, by rw [List.drop_zero]; exact rfl, Below.refl _ _⟩
  case round =>
    obtain ⟨k, hk, rfl, HQ, hb⟩ := hrel
    by_cases hlt : k < spans.length
    · obtain ⟨b1, o1, rfl⟩ := H1.out.place (by simp; omega)
      have hc1 := strAt (H1.out.below hb) hlt
      have hl1 := HS.out _ (List.getElem_mem hlt)
      obtain ⟨sp, hsp⟩ : ∃ sp, spans[k] = sp := ⟨_, rfl⟩
      rw [hsp] at hc1 hl1
      have HSP := Lib.hid hsp
      clear hsp
      by_cases hst : sp = [42]
      · have HR := Lib.hid (HQ.out.trans (look_skip hlt (HSP.out.trans hst)))
        have hx : (sp == [42]) = true := beq_iff_eq.2 hst
        clear hst
        go_wp2_with fail
        go_roundw
        case rel => exact ⟨k + 1, by omega, by go_num, HR, hb⟩
        case measure => simp [intOf]; omega
      · have HR := Lib.hid (HQ.out.trans ((look_go hlt (fun e => hst (HSP.out.symm.trans e))).trans (by rw [HSP.out])))
        have hx : (sp == [42]) = false := beq_eq_false_iff_ne.2 hst
        clear hst HQ
        go_wp2_with (go_at_call 14; refine (PAR.out _ _ (by omega)).mono ?_; rintro e w1 ⟨v, rfl, hown, hb1⟩)
        have hb2 := hb.trans (hb1.mono hb.size)
        obtain ⟨wo, rfl⟩ : ∃ wo : World, wo = wr := ⟨_, rfl⟩
        obtain ⟨a, cap, rfl, hcap, _, ha⟩ := ownsRow_at hown
        clear hc1 hown hb1
        have hpl : (partsOf sp).length ≤ 16777216 := by have := partsOf_length_le sp; omega
        have hjl : (joinD (partsOf sp)).length ≤ 16777216 := by rw [joinD_partsOf]; omega
        go_loopw [7] (fun v wr => ∃ (n : Nat) (ps : List (List UInt8)), v = .slice a n cap ∧ n ≤ 16777216 ∧ n ≤ cap ∧ Hid (ps.length = n ∧ (joinD ps).length ≤ 16777216 ∧ At wr a (ps.map strV) ∧ lookR spans tags = orElse' (chaseR tags ps.reverse) (look (fun sp => chaseR tags (partsOf sp).reverse) (spans.drop (k + 1)))) ∧ Below w.heap.size w wr) (fun v _ => slLen v)
        case atStart => exact ⟨_, partsOf sp, rfl, hpl, hcap, ⟨rfl, hjl, ha, HR.out⟩, hb2⟩
        case round =>
          obtain ⟨n, ps, rfl, hn, hnc, HP, hb3⟩ := hrel
          clear HR hpl hjl hb2
          by_cases hj0 : joinD ps = []
          · have HR2 := Lib.hid (HP.out.2.2.2.trans (by rw [chaseR_empty _ hj0, orElse']))
            have hx2 : (joinD ps).isEmpty = true := by rw [hj0]; rfl
            clear hj0
            by_cases hn0 : 0 < n
            · go_wp2_with (go_at_call 15; refine (JOI.out ps n HP.out.1 _ _ _ hn HP.out.2.1 HP.out.2.2.1).mono ?_; rintro e w1 ⟨rfl, hb5⟩)
              go_roundw
              case rel => exact ⟨k + 1, by omega, by go_num, HR2, hb3.trans (hb5.mono hb3.size)⟩
              case measure => simp [intOf]; omega
            · go_wp2_with fail
              go_roundw
              case rel => exact ⟨k + 1, by omega, by go_num, HR2, hb3⟩
              case measure => simp [intOf]; omega
          · have hx2 : (joinD ps).isEmpty = false := by rw [List.isEmpty_eq_false_iff]; exact hj0
            rcases List.eq_nil_or_concat ps with rfl | ⟨qs, p, hps⟩
            · exact absurd rfl hj0
            rw [List.concat_eq_append] at hps
            subst hps
            have hn0 : 0 < n := by have := HP.out.1; simp at this; omega
            have HJ := Lib.hid hj0
            obtain ⟨J, hJ⟩ : ∃ J, joinD (qs ++ [p]) = J := ⟨_, rfl⟩
            have JN : ∀ (wx : World), At wx a ((qs ++ [p]).map strV) → Calls Try.prog 15 #[.slice a n cap] wx fun e w' => e = .returned (.string (B J)) ∧ Below wx.heap.size wx w' := fun wx hx => by rw [← hJ]; exact JOI.out (qs ++ [p]) n HP.out.1 _ _ _ hn HP.out.2.1 hx
            have hJl : J.length ≤ 16777216 := by rw [← hJ]; exact HP.out.2.1
            rw [hJ] at hx2
            have HJE := Lib.hid hJ
            have HJN := Lib.hid JN
            clear hj0 hJ JN
            have hA := Lib.hid HP.out.2.2.1
            have hbo := Below.refl wr.heap.size wr
            go_wp2_with (first | (go_at_call 16; refine (LOW.out _ (by omega) _).mono ?_; rintro e w1 ⟨rfl, hb5⟩; replace hbo := hbo.trans (hb5.mono hbo.size); clear hb5) | (go_at_call 15; refine (HJN.out _ (hA.out.below hbo)).mono ?_; rintro e w5 ⟨rfl, hb6⟩; replace hbo := hbo.trans (hb6.mono hbo.size); clear hb6))
            replace hb3 := hb3.trans (hbo.mono hb3.size)
            replace hA := Lib.hid (hA.out.below hbo)
            obtain ⟨wo2, rfl⟩ : ∃ wo2 : World, wo2 = wr := ⟨_, rfl⟩
            go_loopw [9] (fun i wr => ∃ j : Nat, j ≤ tags.length ∧ i = .int .i64 j ∧ Hid (findIn tags (lowL J) = findIn (tags.drop j) (lowL J)) ∧ Below w1.heap.size w1 wr) (fun i _ => tags.length - (intOf i).toNat)
            case atStart => exact ⟨0, Nat.zero_le _, rfl, by rw [List.drop_zero]; exact rfl, Below.refl _ _⟩
            case round =>
              obtain ⟨j, hj, rfl, HF, hb4⟩ := hrel
              by_cases hlt2 : j < tags.length
              · obtain ⟨b2, o2, rfl⟩ := H2.out.place (by simp; omega)
                have hc2 := strAt ((H2.out.below hb3).below hb4) hlt2
                have hl2 := HT.out _ (List.getElem_mem hlt2)
                obtain ⟨t, ht⟩ : ∃ t, tags[j] = t := ⟨_, rfl⟩
                rw [ht] at hc2 hl2
                have HTG := Lib.hid ht
                clear ht
                by_cases he : lowL t = lowL J
                · have HR3 := Lib.hid (HP.out.2.2.2.trans (by rw [chaseR_hit HJ.out (by rw [HJE.out]; exact HF.out.trans (findIn_hit hlt2 (by rw [HTG.out]; exact he))), HTG.out, orElse']))
                  have hx3 : (lowL t == lowL J) = true := beq_iff_eq.2 he
                  have hcb : ∀ wx, Below wr.heap.size wr wx → wx.cell? ⟨b2, o2 + j, none⟩ = some (.string (B t)) := fun wx hx => by rw [hx.cell (p := ⟨b2, o2 + j, none⟩) (World.block_lt_of_cell? _ _ hc2)]; exact hc2
                  have HCB := Lib.hid hcb
                  clear he HF hcb
                  go_wp2_with (go_at_call 16; refine (LOW.out _ (by omega) _).mono ?_; rintro e w7 ⟨rfl, hb5⟩; have hc3 := HCB.out _ hb5)
                  go_ret2
                  exact ⟨optV_some HR3.out, (hb3.trans (hb4.mono hb3.size)).trans (hb5.mono (Nat.le_trans hb3.size hb4.size))⟩
                · have HF2 := Lib.hid (HF.out.trans (findIn_step hlt2 (fun e => he (by rw [← HTG.out]; exact e))))
                  have hx3 : (lowL t == lowL J) = false := beq_eq_false_iff_ne.2 he
                  clear he HF
                  go_wp2_with (go_at_call 16; refine (LOW.out _ (by omega) _).mono ?_; rintro e w7 ⟨rfl, hb5⟩)
                  go_roundw
                  case rel => exact ⟨j + 1, by omega, by go_num, HF2, hb4.trans (hb5.mono hb4.size)⟩
                  case measure => simp [intOf]; omega
              · obtain rfl : j = tags.length := by omega
                have HR3 := Lib.hid (HP.out.2.2.2.trans (by rw [chaseR_miss HJ.out (by rw [HJE.out]; exact HF.out.trans (findIn_end _ _))]))
                clear HF
                go_wp2_with fail
                have hb5 := hb3.trans (hb4.mono hb3.size)
                have HP2 : Hid (qs.length = n - 1 ∧ (joinD qs).length ≤ 16777216 ∧ At wr a (qs.map strV) ∧ lookR spans tags = orElse' (chaseR tags (trimR qs.reverse)) (look (fun sp => chaseR tags (partsOf sp).reverse) (spans.drop (k + 1)))) := by
                  refine ⟨?_, Nat.le_trans (joinD_prefix qs p) HP.out.2.1, (hA.out.below hb4).pre, HR3.out⟩
                  have := HP.out.1
                  simp at this
                  omega
                clear HR3 hA HP hb4 HJ HJE HJN hbo hb3
                go_loop [7] (fun v => ∃ (m : Nat) (rs : List (List UInt8)), v = .slice a m cap ∧ m ≤ n - 1 ∧ Hid (rs.length = m ∧ (joinD rs).length ≤ 16777216 ∧ At wr a (rs.map strV) ∧ lookR spans tags = orElse' (chaseR tags (trimR rs.reverse)) (look (fun sp => chaseR tags (partsOf sp).reverse) (spans.drop (k + 1))))) (fun v => slLen v)
                case atStart => exact ⟨_, qs, rfl, Nat.le_refl _, HP2⟩
                case round =>
                  obtain ⟨m, rs, rfl, hm, HM⟩ := hrel
                  clear HP2
                  by_cases hm1 : 1 < m
                  · rcases List.eq_nil_or_concat rs with rfl | ⟨us, q, hus⟩
                    · have := HM.out.1; simp at this; omega
                    rw [List.concat_eq_append] at hus
                    subst hus
                    have hml := HM.out.1
                    have hun : us ≠ [] := by intro e; subst e; simp at hml; omega
                    obtain ⟨b3, o3, rfl⟩ := HM.out.2.2.1.place (by simp)
                    have hc := lastAt HM.out.2.2.1 hml
                    have hq16 : q.length ≤ 16777216 := Nat.le_trans (mem_join_le _ q (by simp)) HM.out.2.1
                    by_cases hq : q.length = 1
                    · have hx5 : ((q.length : Int) == 1) = true := by rw [hq]; rfl
                      have HM2 : Hid (us.length = m - 1 ∧ (joinD us).length ≤ 16777216 ∧ At wr (some ⟨b3, o3, none⟩) (us.map strV) ∧ lookR spans tags = orElse' (chaseR tags (trimR us.reverse)) (look (fun sp => chaseR tags (partsOf sp).reverse) (spans.drop (k + 1)))) := by
                        refine ⟨?_, Nat.le_trans (joinD_prefix us q) HM.out.2.1, HM.out.2.2.1.pre, ?_⟩
                        · simp at hml; omega
                        · have := HM.out.2.2.2
                          rw [trimR_go hun hq] at this
                          exact this
                      clear hml hun hq HM
                      go_wp2_with fail
                      go_round
                      case rel => exact ⟨_, us, rfl, by omega, HM2⟩
                      case measure => simp [slLen]; omega
                    · have hx5 : ((q.length : Int) == 1) = false := by rw [beq_eq_false_iff_ne]; omega
                      have HM2 : Hid ((us ++ [q]).length = m ∧ (joinD (us ++ [q])).length ≤ 16777216 ∧ At wr (some ⟨b3, o3, none⟩) ((us ++ [q]).map strV) ∧ lookR spans tags = orElse' (chaseR tags (us ++ [q]).reverse) (look (fun sp => chaseR tags (partsOf sp).reverse) (spans.drop (k + 1)))) := by
                        refine ⟨HM.out.1, HM.out.2.1, HM.out.2.2.1, ?_⟩
                        have := HM.out.2.2.2
                        rw [trimR_stop hq] at this
                        exact this
                      clear hml hun hq HM
                      go_wp2_with fail
                      go_roundw
                      case rel => exact ⟨_, _, rfl, by omega, by omega, HM2, hb5⟩
                      case measure => simp [slLen]; omega
                  · have HM2 : Hid (rs.length = m ∧ (joinD rs).length ≤ 16777216 ∧ At wr a (rs.map strV) ∧ lookR spans tags = orElse' (chaseR tags rs.reverse) (look (fun sp => chaseR tags (partsOf sp).reverse) (spans.drop (k + 1)))) := by
                      refine ⟨HM.out.1, HM.out.2.1, HM.out.2.2.1, ?_⟩
                      have := HM.out.2.2.2
                      rw [trimR_short (by rw [HM.out.1]; omega)] at this
                      exact this
                    clear HM
                    go_wp2_with fail
                    go_roundw
                    case rel => exact ⟨_, _, rfl, by omega, by omega, HM2, hb5⟩
                    case measure => simp [slLen]; omega
    · obtain rfl : k = spans.length := by omega
      have HR := Lib.hid (HQ.out.trans (look_end spans))
      clear HQ
      go_wp2_with fail
      go_ret2
      exact ⟨optV_none HR.out, hb⟩
end Go.Proofs.Ytfjcbodkjjmagaa
