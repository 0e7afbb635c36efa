/-
  The reference's Label: contract. By an AI agent.
-/
import Derived.Test.YtfocpjcbfbbpgaaGreatDoorZLabel
namespace Go.Proofs.YtfocpjcbfbbpgaaGreatDoor
open Go.RowKit
set_option maxRecDepth 100000
theorem scalF_length (l : List UInt8) : ∀ (k i : Nat) (sc : List Int), l.length - i <= k -> scalF l i = some sc -> sc.length <= l.length - i
 | k, i, sc, hk, h => by
   by_cases hi : l.length <= i
   · rw [scalF_end hi] at h; cases h; exact Nat.zero_le _
   · obtain ⟨v, n, hq⟩ : ∃ v n, nextAt l (i : Int) = (v, n) := ⟨_, _, rfl⟩
     by_cases hn : n = 0
     · subst hn; rw [scalF_none (by omega) hq] at h; cases h
     · rw [scalF_go (by omega) hq hn] at h
       cases hs : scalF l (i + n) with
       | none => rw [hs] at h; cases h
       | some t =>
         rw [hs] at h
         cases h
         have hb := nextAt_bound hq hn
         obtain ⟨k, rfl⟩ : ∃ k', k = k' + 1 := ⟨k - 1, by omega⟩
         have := scalF_length l k (i + n) t (by omega) hs
         simp
         omega
theorem intAt0 {w : World} {b o : Nat} {v : Int} {t : List Int} (h : At w (some ⟨b, o, none⟩) ((v :: t).map I64)) : w.cell? ⟨b, o, none⟩ = some (.int .i64 v) := by
 have := intAt h (k := 0) (by simp)
 exact this
theorem labelNum_none {l : List UInt8} (h : scalF l 0 = none) : labelNum l = 60 := by unfold labelNum wholeR; rw [h]; rfl
theorem labelNum_nil {l : List UInt8} (h : scalF l 0 = some []) : labelNum l = 60 := by unfold labelNum wholeR; rw [h]; rfl
theorem labelNum_cons {l : List UInt8} {v : Int} {t : List Int} (h : scalF l 0 = some (v :: t)) : labelNum l = bif labelB v && okRest t then 0 else 60 := by
 unfold labelNum wholeR
 rw [h]
 cases hc : labelB v && okRest t <;> simp [hc]
set_option maxHeartbeats 800000 in
theorem refLabel_l (l : List UInt8) (w : World) (hl : l.length <= 1048576) :
   Calls Tryz.prog 56 #[.string (B l)] w fun e w' => e = .returned (.int .i64 (labelNum l)) /\ Below w.heap.size w w' := by
 have SC := scalars_l l w (by omega)
 have ST := Lib.hid refStart_any; have DIG := Lib.hid refDigit_any; have SHA := Lib.hid shaped_l
 cases hs : scalF l 0 with
 | none =>
   rw [hs] at SC
   unfold ScalOut at SC
   have SC := Lib.hid SC
   have HE : Hid (labelNum l = 60) := Lib.hid (labelNum_none hs)
   clear hs
   go_enter Tryz.func56, Tryz.ntmps56
   go_wp2_with (go_at_call 101; refine SC.out.mono ?_; rintro e w1 ⟨hb, rfl⟩)
   go_ret
   exact ⟨ret_i64 HE.out.symm, hb⟩
 | some sc =>
   have hlen := scalF_length l _ 0 sc (Nat.le_refl _) hs
   rw [hs] at SC
   unfold ScalOut at SC
   cases sc with
   | nil =>
     have SC := Lib.hid SC
     have HE : Hid (labelNum l = 60) := Lib.hid (labelNum_nil hs)
     clear hs hlen
     go_enter Tryz.func56, Tryz.ntmps56
     go_wp2_with (go_at_call 101; refine SC.out.mono ?_; rintro e w1 ⟨hb, a, c, rfl, ha⟩; clear ha)
     go_ret
     exact ⟨ret_i64 HE.out.symm, hb⟩
   | cons v t =>
     have SC := Lib.hid SC
     have htl : t.length + 1 <= 1048576 := by simp at hlen; omega
     have hw := labelNum_cons hs
     clear hs hlen
     cases hs1 : startB v with
     | false =>
       cases hd : digitB v with
       | false =>
         have HE : Hid (labelNum l = 60) := Lib.hid (by rw [hw, show labelB v = false by unfold labelB; rw [hs1, hd]; rfl]; rfl)
         clear hw
         go_enter Tryz.func56, Tryz.ntmps56
         go_wp2_with (first | (go_at_call 101; refine SC.out.mono ?_; rintro e w1 ⟨hb, a, c, rfl, ha⟩; obtain ⟨b1, o1, rfl⟩ := ha.place (by simp); have hc := intAt0 ha; have HA := Lib.hid ha; clear ha) | (go_at_call 102; refine (ST.out v _).mono ?_; rintro e w2 ⟨rfl, hx1⟩; have hc2 := intAt0 (HA.out.below hx1); replace HA := Lib.hid (HA.out.below hx1); replace hb := hb.trans (hx1.mono hb.size); clear hx1) | (go_at_call 103; refine (DIG.out v _).mono ?_; rintro e w3 ⟨rfl, rfl⟩))
         go_ret
         exact ⟨ret_i64 HE.out.symm, hb⟩
       | true =>
         have hlb : labelB v = true := by unfold labelB; rw [hs1, hd]; rfl
         rw [hlb, Bool.true_and] at hw
         obtain ⟨q, hq⟩ : ∃ q, okRest t = q := ⟨_, rfl⟩
         rw [hq] at hw
         have SHA2 := Lib.hid (fun a c w (hn : (v :: t).length <= 16777216) (h : At w a ((v :: t).map I64)) => (show okRest ((v :: t).drop 1) = q from hq) ▸ SHA.out (v :: t) a c w hn h)
         clear hq hlb
         cases q
         all_goals
           have HE := Lib.hid hw
           clear hw
           go_enter Tryz.func56, Tryz.ntmps56
           go_wp2_with (first | (go_at_call 101; refine SC.out.mono ?_; rintro e w1 ⟨hb, a, c, rfl, ha⟩; obtain ⟨b1, o1, rfl⟩ := ha.place (by simp); have hc := intAt0 ha; have HA := Lib.hid ha; clear ha) | (go_at_call 102; refine (ST.out v _).mono ?_; rintro e w2 ⟨rfl, hx1⟩; have hc2 := intAt0 (HA.out.below hx1); replace HA := Lib.hid (HA.out.below hx1); replace hb := hb.trans (hx1.mono hb.size); clear hx1) | (go_at_call 103; refine (DIG.out v _).mono ?_; rintro e w3 ⟨rfl, rfl⟩) | (go_at_call 104; refine (SHA2.out _ _ _ (by simp; omega) HA.out).mono ?_; rintro e w4 ⟨rfl, hx1⟩; replace hb := hb.trans (hx1.mono hb.size); clear hx1))
           go_ret
           exact ⟨ret_i64 (by rw [HE.out]; rfl), hb⟩
     | true =>
       have hlb : labelB v = true := by unfold labelB; rw [hs1]; rfl
       rw [hlb, Bool.true_and] at hw
       obtain ⟨q, hq⟩ : ∃ q, okRest t = q := ⟨_, rfl⟩
       rw [hq] at hw
       have SHA2 := Lib.hid (fun a c w (hn : (v :: t).length <= 16777216) (h : At w a ((v :: t).map I64)) => (show okRest ((v :: t).drop 1) = q from hq) ▸ SHA.out (v :: t) a c w hn h)
       clear hq hlb
       cases q
       all_goals
         have HE := Lib.hid hw
         clear hw
         go_enter Tryz.func56, Tryz.ntmps56
         go_wp2_with (first | (go_at_call 101; refine SC.out.mono ?_; rintro e w1 ⟨hb, a, c, rfl, ha⟩; obtain ⟨b1, o1, rfl⟩ := ha.place (by simp); have hc := intAt0 ha; have HA := Lib.hid ha; clear ha) | (go_at_call 102; refine (ST.out v _).mono ?_; rintro e w2 ⟨rfl, hx1⟩; have hc2 := intAt0 (HA.out.below hx1); replace HA := Lib.hid (HA.out.below hx1); replace hb := hb.trans (hx1.mono hb.size); clear hx1) | (go_at_call 104; refine (SHA2.out _ _ _ (by simp; omega) HA.out).mono ?_; rintro e w4 ⟨rfl, hx1⟩; replace hb := hb.trans (hx1.mono hb.size); clear hx1))
         go_ret
         exact ⟨ret_i64 (by rw [HE.out]; rfl), hb⟩
end Go.Proofs.YtfocpjcbfbbpgaaGreatDoor
