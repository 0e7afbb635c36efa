/-
  term.Check; the reference's literal and Check: contracts. By an AI agent.
-/
import Derived.Test.YtmnigckpejcaeaaGreatDoorZTermC
import Derived.Test.YtmnigckpejcaeaaGreatDoorZUtfCheck
import Derived.Test.YtmnigckpejcaeaaGreatDoorZGRef2
import Derived.Test.YtmnigckpejcaeaaGreatDoorZLower
import Derived.Deep.RegionLaw
import Derived.Deep.RegionHeld3
import Derived.Test.YtmnigckpejcaeaaGreatDoorZTagCells
import Derived.Deep.CutBlock
import Derived.Outline
import Derived.Test.YtmnigckpejcaeaaGreatDoorZLabel
namespace Go.Proofs.YtmnigckpejcaeaaGreatDoor
open Go.RowKit
set_option maxRecDepth 100000
set_option maxHeartbeats 6400000 in
theorem check_l (t : TermL) (w : World) (hT : TabAt w) (hM : MaxAt w) (h1 : t.text.length <= 1048576) (h2 : t.type.length <= 1048576) (h3 : t.lang.length <= 1048576) :
   Calls Tryz.prog 71 #[termV t] w fun e w' => e = .returned (.int .i64 (termN t)) /\ Below w.heap.size w w' := by
 have LI := Lib.hid (fun u (h : Below w.heap.size w u) => literal_l t u (hM.below h) h1 h2 h3)
 obtain ⟨k, tx, ty, la⟩ := t
 simp only at h1 h2 h3
 unfold termV at LI ⊢
 simp only at LI ⊢
 have IR := Lib.hid (fun u => iriCheck_l tx u (by omega))
 have LA := Lib.hid (fun u (h : Below w.heap.size w u) => label_l tx u (by omega) (hT.below h))
 have BA : Hid (Below w.heap.size w (w.alloc (.cells #[.int .i64 k, .string (B tx), .string (B ty), .string (B la)] 54))) := Lib.hid ((Below.refl _ _).alloc (Nat.le_refl _) _)
 have HT : Hid (termN ⟨k, tx, ty, la⟩ = if k = 1 \/ k = 2 then (if ¬ (ty = [] /\ la = []) then 70 else if k = 1 then iriN tx else if 65536 < tx.length then 2 else labelNum tx) else if k = 3 then litN ⟨k, tx, ty, la⟩ else 70) := Lib.hid rfl
 clear hM hT
 by_cases k12 : k = 1 \/ k = 2
 · have pre : ((k == 1) = true /\ k = 1) \/ ((k == 1) = false /\ (k == 2) = true /\ k ≠ 1) := by
     rcases k12 with rfl | rfl
     · exact .inl ⟨rfl, rfl⟩
     · exact .inr ⟨rfl, rfl, by omega⟩
   rw [if_pos k12] at HT
   clear k12
   by_cases g1 : ty = []
   · have q1 := isE g1
     by_cases g2 : la = []
     · have q2 := isE g2
       rw [if_neg (fun h => h ⟨g1, g2⟩)] at HT
       clear g1 g2
       rcases pre with ⟨p1, p2⟩ | ⟨p1, p2, p3⟩
       · have HE : Hid (termN ⟨k, tx, ty, la⟩ = iriN tx) := Lib.hid (by rw [HT.out, if_pos p2])
         clear HT p2
         go_enter Tryz.func71, Tryz.ntmps71
         go_wp2_with (go_at_call 102; (with_reducible refine (IR.out _).mono ?_); rintro e w1 ⟨rfl, hb1⟩)
         go_ret
         exact ⟨ret_i64 HE.out.symm, BA.out.trans (hb1.mono BA.out.size)⟩
       · by_cases g3 : 65536 < tx.length
         · have q3 := bigI g3
           have HE : Hid (termN ⟨k, tx, ty, la⟩ = 2) := Lib.hid (by rw [HT.out, if_neg p3, if_pos g3])
           clear HT p3
           go_enter Tryz.func71, Tryz.ntmps71
           go_wp2_with fail
           go_ret
           exact ⟨ret_i64 HE.out.symm, BA.out⟩
         · have q3 := bigN g3
           have HE : Hid (termN ⟨k, tx, ty, la⟩ = labelNum tx) := Lib.hid (by rw [HT.out, if_neg p3, if_neg g3])
           clear HT p3
           go_enter Tryz.func71, Tryz.ntmps71
           go_wp2_with (go_at_call 103; (with_reducible refine (LA.out _ BA.out).mono ?_); rintro e w1 ⟨rfl, rfl⟩)
           go_ret
           exact ⟨ret_i64 HE.out.symm, BA.out⟩
     · have q2 := isNE g2
       have HE : Hid (termN ⟨k, tx, ty, la⟩ = 70) := Lib.hid (by rw [HT.out, if_pos (fun h => g2 h.2)])
       clear HT g1 g2
       rcases pre with ⟨p1, p2⟩ | ⟨p1, p2, p3⟩
       · clear p2
         go_enter Tryz.func71, Tryz.ntmps71
         go_wp2_with fail
         go_ret
         exact ⟨ret_i64 HE.out.symm, BA.out⟩
       · clear p3
         go_enter Tryz.func71, Tryz.ntmps71
         go_wp2_with fail
         go_ret
         exact ⟨ret_i64 HE.out.symm, BA.out⟩
   · have q1 := isNE g1
     have HE : Hid (termN ⟨k, tx, ty, la⟩ = 70) := Lib.hid (by rw [HT.out, if_pos (fun h => g1 h.1)])
     clear HT g1
     rcases pre with ⟨p1, p2⟩ | ⟨p1, p2, p3⟩
     · clear p2
       go_enter Tryz.func71, Tryz.ntmps71
       go_wp2_with fail
       go_ret
       exact ⟨ret_i64 HE.out.symm, BA.out⟩
     · clear p3
       go_enter Tryz.func71, Tryz.ntmps71
       go_wp2_with fail
       go_ret
       exact ⟨ret_i64 HE.out.symm, BA.out⟩
 · have p1 : (k == 1) = false := beq_eq_false_iff_ne.2 (by omega)
   have p2 : (k == 2) = false := beq_eq_false_iff_ne.2 (by omega)
   rw [if_neg k12] at HT
   clear k12
   by_cases k3 : k = 3
   · have p3 : (k == 3) = true := beq_iff_eq.2 k3
     have HE : Hid (termN ⟨k, tx, ty, la⟩ = litN ⟨k, tx, ty, la⟩) := Lib.hid (by rw [HT.out, if_pos k3])
     clear HT k3
     go_enter Tryz.func71, Tryz.ntmps71
     go_wp2_with (go_at_call 104; (with_reducible refine (LI.out _ BA.out).mono ?_); rintro e w1 ⟨rfl, hb1⟩)
     go_ret
     exact ⟨ret_i64 HE.out.symm, BA.out.trans (hb1.mono BA.out.size)⟩
   · have p3 : (k == 3) = false := beq_eq_false_iff_ne.2 k3
     have HE : Hid (termN ⟨k, tx, ty, la⟩ = 70) := Lib.hid (by rw [HT.out, if_neg k3])
     clear HT k3
     go_enter Tryz.func71, Tryz.ntmps71
     go_wp2_with fail
     go_ret
     exact ⟨ret_i64 HE.out.symm, BA.out⟩
end Go.Proofs.YtmnigckpejcaeaaGreatDoor
