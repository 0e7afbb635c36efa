/-
  tesseralaw10.LexisOnce: the walk. By an AI agent.
-/
import Derived.Test.YtdhmpakhdhdebaaGreatDoorZLexW24
import Derived.Deep.RegionHeld3
namespace Go.Proofs.YtdhmpakhdhdebaaGreatDoor
open Go.RowKit
set_option maxRecDepth 100000
theorem allR_once {s : List UInt8} {t : TokL} {a e : Nat} (h : TokOf s t a e) : allR (cutF s a e) = ([moved t 0 (e - a)], none) := by
 obtain ⟨h1, h2⟩ := once h
 rw [allR_of h1, h2]
theorem allR_tok {s : List UInt8} (h : (allR s).2 = none) {k : Nat} (hk : k < (allR s).1.length) : ∃ a e, TokOf s (allR s).1[k] a e := by
 obtain ⟨hu, hr⟩ := allR_ok h
 have := toks_all s false s.length 0 (by omega) (by omega) hu
 rw [<- hr] at this
 exact this _ (List.getElem_mem hk)
theorem view_one {w : World} {g o : Nat} {l : List TokL} (h : At w (some ⟨g, o, none⟩) (toksC l)) {k : Nat} (hk : k < l.length) {cap : Nat} (hc : 1 <= cap) : TView w (.slice (some ⟨g, o + k * 6, none⟩) 1 cap) [l[k]] := by
 refine ⟨_, cap, rfl, hc, fun j hj => ⟨g, o + k * 6, rfl, ?_⟩⟩
 obtain ⟨a0, a1, a2, a3, a4, a5⟩ := tok_at6 h hk
 have hj6 : j = 0 \/ j = 1 \/ j = 2 \/ j = 3 \/ j = 4 \/ j = 5 := by simp [toksC, tokC] at hj; omega
 rcases hj6 with rfl | rfl | rfl | rfl | rfl | rfl
 · exact a0
 · exact a1
 · exact a2
 · exact a3
 · exact a4
 · exact a5
set_option maxHeartbeats 6400000 in
theorem lexOnce_walk (s : List UInt8) (w : World) (hl : s.length <= 1048576) (hT : TabAt w) (hM : MaxAt w) :
   Calls Tryz.prog 6 #[.string (B s)] w fun e w' => e = .returned (.bool true) /\ Below w.heap.size w w' := by
 have WK := Lib.hid (works_l w hT hM)
 have HTM := Lib.hid (And.intro hT hM)
 clear hT hM
 go_enter Tryz.func6, Tryz.ntmps6
 go_wp2_with (go_at_call 17; (with_reducible refine WK.out.mono ?_); rintro e w1 ⟨rfl, hb1⟩; have HB1 := Lib.hid hb1; clear hb1)
 by_cases hr : (allR s).2 = none
 · have A1 := all_ok hr (w := w1) (by omega) (HTM.out.1.below HB1.out) (HTM.out.2.below HB1.out)
   have TOK := Lib.hid (fun k hk => allR_tok hr (k := k) hk)
   have hfew := ends_few s
   clear hr
   refine A1.mono ?_
   clear A1
   generalize (allR s).1 = ts at TOK hfew ⊢
   rintro e w2 ⟨⟨a, cap, rfl, hc, hat⟩, hb⟩
   have HA := Lib.hid hat
   have HB2 := Lib.hid (HB1.out.trans (hb.mono HB1.out.size))
   clear hat hb
   go_wp2_with fail
   go_loopw [5] (fun v wr => ∃ k : Nat, v = .int .i64 k /\ k <= ts.length /\ Hid (Below w2.heap.size w2 wr)) (fun v _ => ts.length - (intOf v).toNat)
   case atStart => exact ⟨0, rfl, Nat.zero_le _, Lib.hid (Below.refl _ _)⟩
   case round =>
     obtain ⟨k, rfl, hk, HB⟩ := hrel
     by_cases hlt : k < ts.length /\ k < 200
     · obtain ⟨hlt, h200⟩ := hlt
       have c1 : decide ((k : Int) < (ts.length : Int)) = true := decide_eq_true (by omega)
       have c2 : decide (k < ts.length) = true := decide_eq_true hlt
       have c3 : decide ((k : Int) < 200) = true := decide_eq_true (by omega)
       have c4 : decide (k < 200) = true := decide_eq_true h200
       have i0 : 0 <= (k : Int) := by omega
       have i1 : (k : Int) < (ts.length : Int) := by omega
       have i2 : k < cap := by omega
       have WK1 : IntKind.i64.wrap ((k : Int) + 1) = (k : Int) + 1 := IntWalk.i64_in _ (by omega)
       obtain ⟨g, o, rfl⟩ := HA.out.place (by rw [toksC_len]; omega)
       obtain ⟨x, e, HTK⟩ := TOK.out k hlt
       have HA2 := Lib.hid (HA.out.below HB.out)
       have a4 := (tok_at6 HA2.out hlt).2.2.2.2.1
       have a5 := (tok_at6 HA2.out hlt).2.2.2.2.2
       rw [HTK.at_] at a4
       rw [HTK.fin] at a5
       have hxe := HTK.lt
       have hes := HTK.le
       have hR := allR_once HTK
       have hr2 : (allR (cutF s x e)).2 = none := by rw [hR]
       have HBW := Lib.hid (HB2.out.trans (HB.out.mono HB2.out.size))
       have A2 := fun (u : World) (hu : Below wr.heap.size wr u) => all_ok hr2 (w := u) (by rw [cutF_len2 hes]; omega) (HTM.out.1.below (HBW.out.trans (hu.mono HBW.out.size))) (HTM.out.2.below (HBW.out.trans (hu.mono HBW.out.size)))
       rw [hR] at A2
       have x0 : (0 : Int) <= (x : Int) := by omega
       have x1 : (x : Int) <= (e : Int) := by omega
       have x2 : (e : Int) <= (s.length : Int) := by omega
       obtain ⟨t, ht⟩ : ∃ t, ts[k] = t := ⟨_, rfl⟩
       rw [ht] at A2
       unfold cutF at A2
       have A3 := Lib.hid (A2 wr.drew (Below.refl _ _).drew)
       have VL := fun (u : World) (hu : Below wr.heap.size wr u) (c : Nat) (hc1 : 1 <= c) => (ht ▸ view_one (HA2.out.below hu) hlt hc1 : TView u (.slice (some ⟨g, o + k * 6, none⟩) 1 c) [t])
       have HVL := Lib.hid VL
       have HCK := Lib.hid (fun (u : World) (hu : Below wr.heap.size wr u) => (⟨(hu.cell (p := ⟨g, o + k * 6 + 4, none⟩) (World.block_lt_of_cell? _ _ a4)).trans a4, (hu.cell (p := ⟨g, o + k * 6 + 5, none⟩) (World.block_lt_of_cell? _ _ a5)).trans a5⟩ : u.cell? ⟨g, o + k * 6 + 4, none⟩ = some (.int .i64 (x : Int)) /\ u.cell? ⟨g, o + k * 6 + 5, none⟩ = some (.int .i64 (e : Int))))
       have WS : IntKind.i64.wrap ((e : Int) - (x : Int)) = ((e - x : Nat) : Int) := by rw [show (e : Int) - (x : Int) = ((e - x : Nat) : Int) by omega]; exact IntWalk.i64_in _ (by omega)
       clear hR hr2 A2 VL HTK ht
       go_wp2_with fail
       go_region_held3 (fun u => u.cell? ⟨g, o + k * 6 + 4, none⟩ = some (.int .i64 (x : Int)) /\ u.cell? ⟨g, o + k * 6 + 5, none⟩ = some (.int .i64 (e : Int))) (first | exact ⟨a4, a5⟩ | exact HCK.out _ HB3.out) ((go_at_call 18; (with_reducible refine A3.out.mono ?_); rintro e3 w3 ⟨⟨b, cb, rfl, hcb, hatb⟩, hb3⟩; have HAB := Lib.hid hatb; have HB3 := Lib.hid ((Below.refl _ wr).drew.trans hb3); clear hatb hb3))
       obtain ⟨gm, om, rfl⟩ := HAB.out.place (by simp [toksC, tokC])
       have b4 := (tok_at6 HAB.out (k := 0) (by simp)).2.2.2.2.1
       have b5 := (tok_at6 HAB.out (k := 0) (by simp)).2.2.2.2.2
       have b4' : w3.cell? ⟨gm, om + 4, none⟩ = some (.int .i64 0) := by simpa [moved] using b4
       have b5' : w3.cell? ⟨gm, om + 5, none⟩ = some (.int .i64 ((e - x : Nat) : Int)) := by simpa [moved] using b5
       obtain ⟨a4', a5'⟩ := HCK.out _ HB3.out
       clear a4 a5 b4 b5
       have HCM := Lib.hid (fun (u : World) (hu : Below w3.heap.size w3 u) => (⟨(hu.cell (p := ⟨gm, om + 4, none⟩) (World.block_lt_of_cell? _ _ b4')).trans b4', (hu.cell (p := ⟨gm, om + 5, none⟩) (World.block_lt_of_cell? _ _ b5')).trans b5', HCK.out u (HB3.out.trans (hu.mono HB3.out.size))⟩ : u.cell? ⟨gm, om + 4, none⟩ = some (.int .i64 0) /\ u.cell? ⟨gm, om + 5, none⟩ = some (.int .i64 ((e - x : Nat) : Int)) /\ u.cell? ⟨g, o + k * 6 + 4, none⟩ = some (.int .i64 (x : Int)) /\ u.cell? ⟨g, o + k * 6 + 5, none⟩ = some (.int .i64 (e : Int))))
       have BM := Lib.hid (fun (u : World) (hu : Below w3.heap.size w3 u) => show Calls Tryz.prog 22 #[.slice (some ⟨gm, om, none⟩) 1 cb] u fun e' w' => (∃ b cap, e' = .returned (.slice b 1 cap) /\ 1 <= cap /\ At w' b (toksC [bareT t])) /\ Below u.heap.size u w' from bare_l [moved t 0 (e - x)] (.slice (some ⟨gm, om, none⟩) 1 cb) u ⟨_, _, rfl, hcb, HAB.out.below hu⟩ (by simp))
       have BV := Lib.hid (fun (u : World) (hu : Below w3.heap.size w3 u) (c : Nat) (hc1 : 1 <= c) => show Calls Tryz.prog 22 #[.slice (some ⟨g, o + k * 6, none⟩) 1 c] u fun e' w' => (∃ b cap, e' = .returned (.slice b 1 cap) /\ 1 <= cap /\ At w' b (toksC [bareT t])) /\ Below u.heap.size u w' from bare_l [t] (.slice (some ⟨g, o + k * 6, none⟩) 1 c) u (HVL.out u (HB3.out.trans (hu.mono HB3.out.size)) c hc1) (by simp))
       have hcb1 : 0 < cb := (show 1 <= cb from hcb)
       have hck : ¬ cap = k := by omega
       have hck2 : ¬ (cap : Int) = (k : Int) := by omega
       have hck3 : k + 1 <= cap := by omega
       have hck4 : 1 <= cap - k := by omega
       have j1 : (k : Int) <= (k : Int) + 1 := by omega
       have j2 : (k : Int) + 1 <= (cap : Int) := by omega
       have j3 : (k : Int) + 1 <= (ts.length : Int) := by omega
       have j4 : (0 : Int) <= (k : Int) + 1 := by omega
       have j5 : k <= k + 1 := by omega
       have HBB : Hid (Below w3.heap.size w3 w3.drew) := Lib.hid (Below.refl _ _).drew
       have SM := Lib.hid (fun (u : World) (va vb : Value) (h1 : TView u va [bareT t]) (h2 : TView u vb [bareT t]) => sameTokens_l [bareT t] va vb u h1 h2 (by simp))
       go_wp2_with fail
       go_region_held3 (fun u => u.cell? ⟨gm, om + 4, none⟩ = some (.int .i64 0) /\ u.cell? ⟨gm, om + 5, none⟩ = some (.int .i64 ((e - x : Nat) : Int)) /\ u.cell? ⟨g, o + k * 6 + 4, none⟩ = some (.int .i64 (x : Int)) /\ u.cell? ⟨g, o + k * 6 + 5, none⟩ = some (.int .i64 (e : Int))) (first | exact ⟨b4', b5', a4', a5'⟩ | exact HCM.out _ HBB.out) (first
         | (go_at_call 22; (with_reducible refine (BM.out _ HBB.out).mono ?_); rintro e5 w5 ⟨⟨v5, c5, rfl, hc5, hat5⟩, hb5⟩; have HVA : Hid (TView w5 (.slice v5 1 c5) [bareT t]) := Lib.hid ⟨v5, c5, rfl, hc5, hat5⟩; (try (have HVB := Lib.hid (HVB.out.below hb5))); have HBB := Lib.hid (HBB.out.trans (hb5.mono HBB.out.size)); clear hc5 hat5 hb5)
         | (go_at_call 22; (with_reducible refine (BV.out _ HBB.out _ ?_).mono ?_); (exact hck4); rintro e6 w6 ⟨⟨v6, c6, rfl, hc6, hat6⟩, hb6⟩; have HVB : Hid (TView w6 (.slice v6 1 c6) [bareT t]) := Lib.hid ⟨v6, c6, rfl, hc6, hat6⟩; (try (have HVA := Lib.hid (HVA.out.below hb6))); have HBB := Lib.hid (HBB.out.trans (hb6.mono HBB.out.size)); clear hc6 hat6 hb6)
         | (go_at_call 21; (with_reducible refine (SM.out _ _ _ HVA.out HVB.out).mono ?_); rintro e7 w7 ⟨rfl, n7, rfl⟩; have HBB := Lib.hid (below_drewN_h HBB.out n7)))
       · go_wp2_with fail
         go_roundw
         case rel => exact ⟨k + 1, by go_num, by omega, Lib.hid (HB.out.trans ((HB3.out.trans (HBB.out.mono HB3.out.size)).mono HB.out.size))⟩
         case measure => simp [intOf]; omega
     · have hd : decide ((k : Int) < (ts.length : Int)) = false \/ (decide ((k : Int) < (ts.length : Int)) = true /\ decide ((k : Int) < 200) = false) := by
         by_cases h1 : k < ts.length
         · exact .inr ⟨decide_eq_true (by omega), decide_eq_false (by omega)⟩
         · exact .inl (decide_eq_false (by omega))
       have HBW := Lib.hid (HB2.out.trans (HB.out.mono HB2.out.size))
       rcases hd with h1 | ⟨h1, h2⟩
       · have c2 : decide (k < ts.length) = false := by rw [<- h1]; exact decide_eq_decide.2 (by omega)
         go_wp2_with fail
         go_ret
         exact ⟨rfl, HBW.out⟩
       · have c2 : decide (k < ts.length) = true := by rw [<- h1]; exact decide_eq_decide.2 (by omega)
         have c4 : decide (k < 200) = false := by rw [<- h2]; exact decide_eq_decide.2 (by omega)
         go_wp2_with fail
         go_ret
         exact ⟨rfl, HBW.out⟩
 · have A1 := all_not hr (w := w1) (by omega) (HTM.out.1.below HB1.out) (HTM.out.2.below HB1.out)
   refine A1.mono ?_
   clear A1 hr
   rintro e w2 ⟨⟨x, rfl⟩, hb⟩
   have HB2 := Lib.hid hb
   clear hb
   go_wp2_with fail
   go_ret
   exact ⟨rfl, HB1.out.trans (HB2.out.mono HB1.out.size)⟩
end Go.Proofs.YtdhmpakhdhdebaaGreatDoor
