/-
  tesseralaw06.NamesFinds: the walk. By an AI agent.
-/
import Derived.Test.YtfjcbodkjjmagaaDoorGWorks
import Derived.Test.YtfjcbodkjjmagaaDoorFinds0
import Derived.Test.YtfjcbodkjjmagaaDoorLookup
import Derived.Deep.RegionHeld3
import Derived.BigQuiet
import Derived.Deep.QuietTactic
namespace Go.Proofs.YtfjcbodkjjmagaaDoor
open Go.RowKit
set_option maxRecDepth 100000
attribute [go_sem] cat45

theorem any_take_step {α : Type} (f : α → Bool) (l : List α) (k : Nat) (h : k < l.length) : (l.take (k + 1)).any f = ((l.take k).any f || f l[k]) := by
  rw [List.take_succ_eq_append_getElem h, List.any_append]
  simp

set_option maxHeartbeats 6400000 in
theorem finds_none (spans tags : List (List UInt8)) (a1 a2 : Option Addr) (c1 c2 : Nat) (w : World) (hT : TabAt w) (hM : MaxAt w) (hn1 : spans.length ≤ 1048576) (hn2 : tags.length ≤ 1048576)
    (hs : ∀ p ∈ spans, p.length ≤ 1048576) (ht : ∀ p ∈ tags, p.length ≤ 1048576) (h1 : At w a1 (spans.map strV)) (h2 : At w a2 (tags.map strV)) (ho : lookN spans tags = none) :
    Calls Tryd.prog 12 #[.slice a1 spans.length c1, .slice a2 tags.length c2] w fun e w' => e = .returned (.bool true) ∧ Below w.heap.size w w' := by
  have WK := Lib.hid (works_l w hT hM)
  have LO : Hid (∀ u, Below w.heap.size w u → Calls Tryd.prog 38 #[.slice a1 spans.length c1, .slice a2 tags.length c2] u fun e w' => e = .returned (.tuple #[.string (B []), .bool false]) ∧ Below u.heap.size u w') :=
    Lib.hid (fun u hu => by
      have h := lookup_l spans tags a1 a2 c1 c2 u (by omega) (by omega) (fun p hp => by have := hs p hp; omega) (fun p hp => by have := ht p hp; omega) (h1.below hu) (h2.below hu)
      rw [ho] at h
      exact h)
  have LOW := Lib.hid (fun (m : List UInt8) (h : m.length ≤ 1048576) (u : World) => lower_l m u (by unfold maxLen; omega))
  have NO := Lib.hid (fun i (hi : i < spans.length) (h0 : spans[i] ≠ []) (h42 : spans[i] ≠ [42]) j (hj : j < tags.length) => lookN_none ho spans[i] (List.getElem_mem hi) h0 h42 tags[j] (List.getElem_mem hj))
  have H1 := Lib.hid h1; have H2 := Lib.hid h2; have HS := Lib.hid hs; have HTG := Lib.hid ht
  clear h1 h2 hs ht ho hT hM
  go_enter Tryd.func12, Tryd.ntmps12
  go_wp2_with fail
  refine WK.out.mono ?_
  rintro e w1 ⟨rfl, hb1⟩
  have HB1 := Lib.hid hb1
  clear hb1
  go_wp2_with fail
  refine (LO.out _ HB1.out).mono ?_
  rintro e w2 ⟨rfl, hb2⟩
  have hb0 := HB1.out.trans (hb2.mono HB1.out.size)
  clear hb2 HB1 WK LO
  go_wp2_with fail
  go_loopw [7] (fun i wr => ∃ k : Nat, k ≤ spans.length ∧ i = .int .i64 k ∧ Below w.heap.size w wr) (fun i _ => spans.length - (intOf i).toNat)
  case atStart => exact ⟨0, Nat.zero_le _, rfl, hb0⟩
  case round =>
    obtain ⟨k, hk, rfl, hb⟩ := hrel
    by_cases hlt : k < spans.length
    · obtain ⟨b1, o1, rfl⟩ := H1.out.place (by simp; omega)
      have hc1 := strAt H1.out hlt
      have hl1 := HS.out _ (List.getElem_mem hlt)
      have NO2 := Lib.hid (NO.out k hlt)
      obtain ⟨sp, hsp⟩ : ∃ sp, spans[k] = sp := ⟨_, rfl⟩
      rw [hsp] at hc1 hl1 NO2
      clear hsp
      have hbl1 : b1 < w.heap.size := World.block_lt_of_cell? _ _ hc1
      have LA := Lib.hid (LOW.out sp hl1)
      have HC1 := Lib.hid hc1
      clear hc1 hl1
      go_wp2_with fail
      obtain ⟨wo, rfl⟩ : ∃ wo : World, wo = wr := ⟨_, rfl⟩
      go_loopw [8] (fun i wr => ∃ j : Nat, j ≤ tags.length ∧ i = .int .i64 j ∧ Below w.heap.size w wr) (fun i _ => tags.length - (intOf i).toNat)
      case atStart => exact ⟨0, Nat.zero_le _, rfl, hb⟩
      case round =>
        obtain ⟨j, hj, rfl, hb3⟩ := hrel
        by_cases hlt2 : j < tags.length
        · obtain ⟨b2, o2, rfl⟩ := H2.out.place (by simp; omega)
          have hc2 := strAt H2.out hlt2
          have hl2 := HTG.out _ (List.getElem_mem hlt2)
          have NO3 := Lib.hid (fun x y => NO2.out x y j hlt2)
          obtain ⟨t, htt⟩ : ∃ t, tags[j] = t := ⟨_, rfl⟩
          rw [htt] at hc2 hl2 NO3
          clear htt
          have hbl2 : b2 < w.heap.size := World.block_lt_of_cell? _ _ hc2
          have LB := Lib.hid (LOW.out t hl2)
          have HC2 := Lib.hid hc2
          clear hc2 hl2
          have SB : Hid (∀ u, Below w.heap.size w u → u.cell? ⟨b1, o1 + k, none⟩ = some (.string (B sp)) ∧ u.cell? ⟨b2, o2 + j, none⟩ = some (.string (B t))) :=
            Lib.hid (fun u h => ⟨(h.cell (p := ⟨b1, o1 + k, none⟩) hbl1).trans HC1.out, (h.cell (p := ⟨b2, o2 + j, none⟩) hbl2).trans HC2.out⟩)
          have z1 := (SB.out _ hb3).1
          have z2 := (SB.out _ hb3).2
          by_cases g0 : sp = []
          · have e0 : sp.isEmpty = true := by rw [g0]; rfl
            clear g0
            go_wp2_with fail
            go_quiet (fail)
            go_wp2_with fail
            go_roundw
            case rel => exact ⟨j + 1, by omega, by go_num, below_drewN hb3 _⟩
            case measure => simp [intOf]; omega
          have e0 : sp.isEmpty = false := by rw [List.isEmpty_eq_false_iff]; exact g0
          by_cases g1 : sp = [42]
          · have e1 : (sp == [42]) = true := beq_iff_eq.2 g1
            clear g0 g1
            go_wp2_with fail
            go_quiet (fail)
            go_wp2_with fail
            go_roundw
            case rel => exact ⟨j + 1, by omega, by go_num, below_drewN hb3 _⟩
            case measure => simp [intOf]; omega
          have e1 : (sp == [42]) = false := beq_eq_false_iff_ne.2 g1
          have e2 : (lowL sp == lowL t) = false := beq_eq_false_iff_ne.2 (NO3.out g0 g1)
          have HB3 := Lib.hid hb3
          clear g0 g1 hb3 NO2 NO3
          go_upto_region 11 with fail
          go_cut [63] (fun s wx => s = .bool false ∧ Below w.heap.size w wx)
          case first =>
            go_region_held3 (fun w' => w'.cell? ⟨b1, o1 + k, none⟩ = some (.string (B sp)) ∧ w'.cell? ⟨b2, o2 + j, none⟩ = some (.string (B t))) (first | exact ⟨z1, z2⟩ | exact SB.out _ HB8.out | exact SB.out _ HB7.out)
              (first
                | (go_at_call 34; (with_reducible refine (LA.out _).mono ?_); rintro e w7 ⟨rfl, hb7⟩; have HB7 : Hid (Below w.heap.size w w7) := Lib.hid (HB3.out.drew.trans (hb7.mono HB3.out.drew.size)); clear hb7)
                | (go_at_call 34; (with_reducible refine (LB.out _).mono ?_); rintro e w8 ⟨rfl, hb8⟩; have HB8 : Hid (Below w.heap.size w w8) := Lib.hid (HB7.out.trans (hb8.mono HB7.out.size)); clear hb8))
            go_wp2_with fail
            go_meet
            case rel => exact ⟨rfl, HB8.out⟩
          case rest =>
            obtain ⟨rfl, hb9⟩ := hcut
            clear z1 z2 HB3
            go_wp2_with fail
            go_roundw
            case rel => exact ⟨j + 1, by omega, by go_num, hb9⟩
            case measure => simp [intOf]; omega
        · obtain rfl : j = tags.length := by omega
          go_wp2_with fail
          go_roundw
          case rel => exact ⟨k + 1, by omega, by go_num, hb3⟩
          case measure => simp [intOf]; omega
    · obtain rfl : k = spans.length := by omega
      go_wp2_with fail
      go_ret
      exact ⟨rfl, hb⟩

set_option maxHeartbeats 6400000 in
theorem finds_some (spans tags : List (List UInt8)) (t : List UInt8) (a1 a2 : Option Addr) (c1 c2 : Nat) (w : World) (hT : TabAt w) (hM : MaxAt w) (hn1 : spans.length ≤ 1048576) (hn2 : tags.length ≤ 1048576)
    (hs : ∀ p ∈ spans, p.length ≤ 1048576) (ht : ∀ p ∈ tags, p.length ≤ 1048576) (h1 : At w a1 (spans.map strV)) (h2 : At w a2 (tags.map strV)) (ho : lookN spans tags = some t) :
    Calls Tryd.prog 12 #[.slice a1 spans.length c1, .slice a2 tags.length c2] w fun e w' => e = .returned (.bool true) ∧ Below w.heap.size w w' := by
  have WK := Lib.hid (works_l w hT hM)
  have LO : Hid (∀ u, Below w.heap.size w u → Calls Tryd.prog 38 #[.slice a1 spans.length c1, .slice a2 tags.length c2] u fun e w' => e = .returned (.tuple #[.string (B t), .bool true]) ∧ Below u.heap.size u w') :=
    Lib.hid (fun u hu => by
      have h := lookup_l spans tags a1 a2 c1 c2 u (by omega) (by omega) (fun p hp => by have := hs p hp; omega) (fun p hp => by have := ht p hp; omega) (h1.below hu) (h2.below hu)
      rw [ho] at h
      exact h)
  have LSTAR : Hid (∀ u g, Below w.heap.size w u → u.cell? ⟨g, 0, none⟩ = some (.string (B [42])) → Calls Tryd.prog 38 #[.slice (some ⟨g, 0, none⟩) 1 1, .slice a2 tags.length c2] u fun e w' => e = .returned (.tuple #[.string (B []), .bool false]) ∧ Below u.heap.size u w') :=
    Lib.hid (fun u g hu hc => by
      have h := lookup_l [[42]] tags (some ⟨g, 0, none⟩) a2 1 c2 u (by simp) (by omega) (fun p hp => by simp at hp; subst hp; simp) (fun p hp => by have := ht p hp; omega) (fun j hj => by
        simp at hj
        subst hj
        exact ⟨g, 0, rfl, hc⟩) (h2.below hu)
      rw [lookN_star] at h
      exact h)
  have LOW := Lib.hid (fun (m : List UInt8) (h : m.length ≤ 1048576) (u : World) => lower_l m u (by unfold maxLen; omega))
  obtain ⟨hmem, hne, hfrom⟩ := lookN_some ho
  have hlt : t.length ≤ 1048576 := ht t hmem
  have HIS : Hid (tags.any (· == t) = true) := Lib.hid (List.any_eq_true.2 ⟨t, hmem, by simp⟩)
  have HFR : Hid (spans.any (fromB t) = true) := Lib.hid (List.any_eq_true.2 hfrom)
  have hem : t.isEmpty = false := by rw [List.isEmpty_eq_false_iff]; exact hne
  have LT := Lib.hid (LOW.out t hlt)
  have H1 := Lib.hid h1; have H2 := Lib.hid h2; have HS := Lib.hid hs
  clear h1 h2 hs ht ho hT hM hmem hne hfrom
  go_enter Tryd.func12, Tryd.ntmps12
  go_wp2_with fail
  refine WK.out.mono ?_
  rintro e w1 ⟨rfl, hb1⟩
  have HB1 := Lib.hid hb1
  clear hb1
  go_wp2_with fail
  refine (LO.out _ HB1.out).mono ?_
  rintro e w2 ⟨rfl, hb2⟩
  have hb0 := HB1.out.trans (hb2.mono HB1.out.size)
  clear hb2 HB1 WK LO
  go_wp2_with fail
  go_loop [9, 10] (fun v i => ∃ (k : Nat) (b : Bool), k ≤ tags.length ∧ i = .int .i64 k ∧ v = .bool b ∧ Hid (b = (tags.take k).any (· == t))) (fun _ i => tags.length - (intOf i).toNat)
  case atStart => exact ⟨0, false, Nat.zero_le _, rfl, rfl, Lib.hid rfl⟩
  case round =>
    obtain ⟨k, b, hk, rfl, rfl, HB⟩ := hrel
    by_cases hlt2 : k < tags.length
    · obtain ⟨b2, o2, rfl⟩ := H2.out.place (by simp; omega)
      have hc2 := strAt (H2.out.below hb0) hlt2
      have hst : Hid ((tags.take (k + 1)).any (· == t) = (b || tags[k] == t)) := Lib.hid (by rw [any_take_step _ _ _ hlt2, HB.out])
      obtain ⟨x, hx⟩ : ∃ x, tags[k] = x := ⟨_, rfl⟩
      rw [hx] at hc2 hst
      clear hx HB
      cases b with
      | true =>
        go_wp2_with fail
        go_round
        case rel => exact ⟨k + 1, true, by omega, by go_num, rfl, Lib.hid (by rw [hst.out]; rfl)⟩
        case measure => simp [intOf]; omega
      | false =>
        cases hq : (x == t) with
        | true =>
          rw [hq] at hst
          go_wp2_with fail
          go_round
          case rel => exact ⟨k + 1, true, by omega, by go_num, rfl, Lib.hid (by rw [hst.out]; rfl)⟩
          case measure => simp [intOf]; omega
        | false =>
          rw [hq] at hst
          go_wp2_with fail
          go_round
          case rel => exact ⟨k + 1, false, by omega, by go_num, rfl, Lib.hid (by rw [hst.out]; rfl)⟩
          case measure => simp [intOf]; omega
    · obtain rfl : k = tags.length := by omega
      obtain rfl : b = true := by rw [HB.out, List.take_length]; exact HIS.out
      clear HB
      go_wp2_with fail
      refine (LT.out _).mono ?_
      rintro e w3 ⟨rfl, hb3⟩
      have hb4 := hb0.trans (hb3.mono hb0.size)
      clear hb3
      obtain ⟨lt, hltt⟩ : ∃ lt, lowL t = lt := ⟨_, rfl⟩
      have hlt4 : lt.length ≤ 1048576 := by rw [← hltt, lowL_length]; exact hlt
      rw [hltt]
      have HLT := Lib.hid hltt
      clear hltt
      go_wp2_with fail
      go_loopw [11, 13] (fun v i wr => ∃ (k : Nat) (b : Bool), k ≤ spans.length ∧ i = .int .i64 k ∧ v = .bool b ∧ Hid (b = (spans.take k).any (fromB t)) ∧ Below w.heap.size w wr) (fun _ i _ => spans.length - (intOf i).toNat)
      case atStart => exact ⟨0, false, Nat.zero_le _, rfl, rfl, Lib.hid rfl, hb4⟩
      case round =>
        obtain ⟨k, b, hk, rfl, rfl, HB, hb5⟩ := hrel
        by_cases hlt3 : k < spans.length
        · obtain ⟨b1, o1, rfl⟩ := H1.out.place (by simp; omega)
          have hc1 := strAt H1.out hlt3
          have hl1 := HS.out _ (List.getElem_mem hlt3)
          have hst : Hid ((spans.take (k + 1)).any (fromB t) = (b || fromB t spans[k])) := Lib.hid (by rw [any_take_step _ _ _ hlt3, HB.out])
          obtain ⟨x, hx⟩ : ∃ x, spans[k] = x := ⟨_, rfl⟩
          rw [hx] at hc1 hl1 hst
          clear hx HB
          have hbl1 : b1 < w.heap.size := World.block_lt_of_cell? _ _ hc1
          have hcw := (hb5.cell (p := ⟨b1, o1 + k, none⟩) hbl1).trans hc1
          have LX := Lib.hid (LOW.out x hl1)
          have hlx : (lowL x).length ≤ 1048576 := by rw [lowL_length]; exact hl1
          have SB : Hid (∀ u, Below w.heap.size w u → u.cell? ⟨b1, o1 + k, none⟩ = some (.string (B x))) := Lib.hid (fun u h => (h.cell (p := ⟨b1, o1 + k, none⟩) hbl1).trans hc1)
          clear hc1
          have HFB : Hid (fromB t x = (!(x == [42]) && (lowL x == lowL t || (decide ((lowL t).length < (lowL x).length) && decide ((lowL x).take ((lowL t).length + 1) = lowL t ++ [45]))))) := Lib.hid (by
            unfold fromB
            rw [prefix_take, List.length_append, List.length_singleton]
            rfl)
          go_wp2_with fail
          refine (LX.out _).mono ?_
          rintro e w6 ⟨rfl, hb6⟩
          have hb7 := hb5.trans (hb6.mono hb5.size)
          have hcx := SB.out _ hb7
          clear hb6 hcw
          obtain ⟨lx, hlxx⟩ : ∃ lx, lowL x = lx := ⟨_, rfl⟩
          rw [hlxx] at hlx HFB ⊢
          rw [HLT.out] at HFB
          clear hlxx
          cases b with
          | true =>
            go_wp2_with fail
            go_roundw
            case rel => exact ⟨k + 1, true, by omega, by go_num, rfl, Lib.hid (by rw [hst.out]; rfl), hb7⟩
            case measure => simp [intOf]; omega
          | false =>
            cases q1 : (x == [42]) with
            | true =>
              rw [q1] at HFB
              go_wp2_with fail
              go_roundw
              case rel => exact ⟨k + 1, false, by omega, by go_num, rfl, Lib.hid (by rw [hst.out, HFB.out]; rfl), hb7⟩
              case measure => simp [intOf]; omega
            | false =>
              rw [q1] at HFB
              cases q2 : (lx == lt) with
              | true =>
                rw [q2] at HFB
                go_wp2_with fail
                go_roundw
                case rel => exact ⟨k + 1, true, by omega, by go_num, rfl, Lib.hid (by rw [hst.out, HFB.out]; rfl), hb7⟩
                case measure => simp [intOf]; omega
              | false =>
                rw [q2] at HFB
                by_cases q3 : lt.length < lx.length
                · have q3d : decide (lt.length < lx.length) = true := decide_eq_true q3
                  rw [q3d] at HFB
                  have hle : lt.length + 1 ≤ lx.length := q3
                  cases q4 : (lx.take (lt.length + 1) == lt ++ [45]) with
                  | true =>
                    rw [show decide (lx.take (lt.length + 1) = lt ++ [45]) = true from decide_eq_true (beq_iff_eq.1 q4)] at HFB
                    go_wp2_with fail
                    go_roundw
                    case rel => exact ⟨k + 1, true, by omega, by go_num, rfl, Lib.hid (by rw [hst.out, HFB.out]; rfl), hb7⟩
                    case measure => simp [intOf]; omega
                  | false =>
                    rw [show decide (lx.take (lt.length + 1) = lt ++ [45]) = false from decide_eq_false (beq_eq_false_iff_ne.1 q4)] at HFB
                    go_wp2_with fail
                    go_roundw
                    case rel => exact ⟨k + 1, false, by omega, by go_num, rfl, Lib.hid (by rw [hst.out, HFB.out]; rfl), hb7⟩
                    case measure => simp [intOf]; omega
                · have q3d : decide (lt.length < lx.length) = false := decide_eq_false q3
                  rw [q3d] at HFB
                  go_wp2_with fail
                  go_roundw
                  case rel => exact ⟨k + 1, false, by omega, by go_num, rfl, Lib.hid (by rw [hst.out, HFB.out]; rfl), hb7⟩
                  case measure => simp [intOf]; omega
        · obtain rfl : k = spans.length := by omega
          obtain rfl : b = true := by rw [HB.out, List.take_length]; exact HFR.out
          clear HB
          have hbA : ∀ o, Below w.heap.size w (wr.alloc o) := fun o => hb5.alloc hb5.size o
          have HBA := Lib.hid hbA
          clear hbA
          go_wp2_with fail
          refine (LSTAR.out _ _ (HBA.out _) (by rw [World.cell?_alloc_new]; rfl)).mono ?_
          rintro e w8 ⟨rfl, hb8⟩
          have HB8 := Lib.hid ((HBA.out _).trans (hb8.mono (HBA.out _).size))
          clear hb8
          go_wp2_with fail
          go_ret
          exact ⟨rfl, HB8.out⟩

theorem finds_walk (spans tags : List (List UInt8)) (a1 a2 : Option Addr) (c1 c2 : Nat) (w : World) (hT : TabAt w) (hM : MaxAt w) (hn1 : spans.length ≤ 1048576) (hn2 : tags.length ≤ 1048576)
    (hs : ∀ p ∈ spans, p.length ≤ 1048576) (ht : ∀ p ∈ tags, p.length ≤ 1048576) (h1 : At w a1 (spans.map strV)) (h2 : At w a2 (tags.map strV)) :
    Calls Tryd.prog 12 #[.slice a1 spans.length c1, .slice a2 tags.length c2] w fun e w' => e = .returned (.bool true) ∧ Below w.heap.size w w' := by
  cases ho : lookN spans tags with
  | none => exact finds_none spans tags a1 a2 c1 c2 w hT hM hn1 hn2 hs ht h1 h2 ho
  | some t => exact finds_some spans tags t a1 a2 c1 c2 w hT hM hn1 hn2 hs ht h1 h2 ho
end Go.Proofs.YtfjcbodkjjmagaaDoor
