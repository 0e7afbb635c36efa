/-
  Quads compared: what != answers. By an AI agent.
-/
import Derived.Test.YtmnigckpejcaeaaGreatDoorZEach
import Derived.Test.YtmnigckpejcaeaaGreatDoorZRound
import Derived.Test.YtmnigckpejcaeaaGreatDoorZSameQ
import Derived.Test.YtmnigckpejcaeaaGreatDoorZLoose0
import Derived.Test.YtmnigckpejcaeaaGreatDoorZPatch0
namespace Go.Proofs.YtmnigckpejcaeaaGreatDoor
open Go.RowKit
set_option maxRecDepth 100000
set_option maxHeartbeats 1000000 in
theorem neq_q (p q : QuadL) (w : World) : (binOp .neq 56 (qvE p) (qvE q)).run Tryz.prog w = .ok (.bool (!decide (p = q))) w := by
 obtain ⟨⟨k1, a1, b1, c1⟩, ⟨k2, a2, b2, c2⟩, ⟨k3, a3, b3, c3⟩, ⟨k4, a4, b4, c4⟩⟩ := p
 obtain ⟨⟨l1, d1, e1, f1⟩, ⟨l2, d2, e2, f2⟩, ⟨l3, d3, e3, f3⟩, ⟨l4, d4, e4, f4⟩⟩ := q
 go_simp
 by_cases h : k1 = l1
 case neg => rw [if_neg h]; simp [h]
 subst h
 rw [if_pos rfl]
 by_cases h : a1 = d1
 case neg => rw [if_neg h]; simp [h]
 subst h
 rw [if_pos rfl]
 by_cases h : b1 = e1
 case neg => rw [if_neg h]; simp [h]
 subst h
 rw [if_pos rfl]
 by_cases h : c1 = f1
 case neg => rw [if_neg h]; simp [h]
 subst h
 rw [if_pos rfl]
 by_cases h : k2 = l2
 case neg => rw [if_neg h]; simp [h]
 subst h
 rw [if_pos rfl]
 by_cases h : a2 = d2
 case neg => rw [if_neg h]; simp [h]
 subst h
 rw [if_pos rfl]
 by_cases h : b2 = e2
 case neg => rw [if_neg h]; simp [h]
 subst h
 rw [if_pos rfl]
 by_cases h : c2 = f2
 case neg => rw [if_neg h]; simp [h]
 subst h
 rw [if_pos rfl]
 by_cases h : k3 = l3
 case neg => rw [if_neg h]; simp [h]
 subst h
 rw [if_pos rfl]
 by_cases h : a3 = d3
 case neg => rw [if_neg h]; simp [h]
 subst h
 rw [if_pos rfl]
 by_cases h : b3 = e3
 case neg => rw [if_neg h]; simp [h]
 subst h
 rw [if_pos rfl]
 by_cases h : c3 = f3
 case neg => rw [if_neg h]; simp [h]
 subst h
 rw [if_pos rfl]
 by_cases h : k4 = l4
 case neg => rw [if_neg h]; simp [h]
 subst h
 rw [if_pos rfl]
 by_cases h : a4 = d4
 case neg => rw [if_neg h]; simp [h]
 subst h
 rw [if_pos rfl]
 by_cases h : b4 = e4
 case neg => rw [if_neg h]; simp [h]
 subst h
 rw [if_pos rfl]
 by_cases h : c4 = f4
 case neg => rw [if_neg h]; simp [h]
 subst h
 rw [if_pos rfl]
 simp
end Go.Proofs.YtmnigckpejcaeaaGreatDoor
namespace Go.Proofs.YtmnigckpejcaeaaGreatDoor
open Go.RowKit
set_option maxRecDepth 100000
theorem pLines_own {m p : List QuadL} (hm : ∀ q ∈ m, quadN q = 0) (hp : ∀ q ∈ p, quadN q = 0) : ∀ x ∈ linesL (pText m p) 0, x.2.length <= 16777216 := by
 obtain ⟨xs, j, h1, h2, h3, h4⟩ := lines_rows (l := pText m p) (c := 45) (by decide) m 0 (p.flatMap (fun q => pRow 43 q ++ [10])) hm rfl (Nat.zero_le _)
 obtain ⟨ys, k, g1, g2, g3, g4⟩ := lines_rows (l := pText m p) (c := 43) (by decide) p j [] hp (by rw [h2, List.append_nil]) h3
 have hk : linesL (pText m p) k = [] := linesL_end (by
   have := congrArg List.length g2
   simp at this
   omega)
 rw [h1, g1, hk, List.append_nil]
 intro x hx
 have hmem : x.2 ∈ m.map (pRow 45) ++ p.map (pRow 43) := by
   rcases List.mem_append.1 hx with hx | hx
   · exact List.mem_append.2 (.inl (h4 ▸ List.mem_map_of_mem hx))
   · exact List.mem_append.2 (.inr (g4 ▸ List.mem_map_of_mem hx))
 rcases List.mem_append.1 hmem with h | h
 · obtain ⟨q, hq, e⟩ := List.mem_map.1 h
   have := line_len (hm q hq)
   rw [<- e]; unfold pRow; simp only [List.length_cons]; omega
 · obtain ⟨q, hq, e⟩ := List.mem_map.1 h
   have := line_len (hp q hq)
   rw [<- e]; unfold pRow; simp only [List.length_cons]; omega
set_option maxHeartbeats 2000000 in
theorem sameQuads_f (l m : List QuadL) (v0 v1 : Value) (w : World) (h0 : QView w v0 l) (h1 : QView w v1 m) (hl : l.length <= 4194304) (hm : m.length <= 4194304) (hlm : l ≠ m) :
   Calls Tryz.prog 19 #[v0, v1] w fun e w' => e = .returned (.bool false) /\ Below w.heap.size w w' := by
 obtain ⟨pa, ca, rfl, _, q0⟩ := h0
 obtain ⟨pb, cb, rfl, _, q1⟩ := h1
 have HA := Lib.hid q0
 have HB := Lib.hid q1
 clear q0 q1
 by_cases hn : l.length = m.length
 case neg =>
   have k0 : ((l.length : Int) != (m.length : Int)) = true := by rw [bne_iff_ne]; omega
   clear hlm hn
   go_enter Tryz.func19, Tryz.ntmps19
   go_wp2_with fail
   go_ret
   exact ⟨rfl, Below.refl _ _⟩
 have k0 : ((l.length : Int) != (m.length : Int)) = false := by rw [bne_eq_false_iff_eq]; omega
 have HN := Lib.hid hn
 have HD := Lib.hid hlm
 clear hn hlm
 go_enter Tryz.func19, Tryz.ntmps19
 go_wp2_with fail
 go_loopw [5] (fun i wr => ∃ k : Nat, i = .int .i64 k /\ k <= l.length /\ Hid (l.take k = m.take k) /\ Below w.heap.size w wr) (fun i _ => l.length - (intOf i).toNat)
 case atStart => exact ⟨0, rfl, Nat.zero_le _, Lib.hid rfl, Below.refl _ _⟩
 case round =>
   obtain ⟨k, rfl, hk, HT, hb⟩ := hrel
   by_cases hlt : k < l.length
   · have hlt2 : k < m.length := by rw [<- HN.out]; exact hlt
     obtain ⟨b, o, rfl⟩ := HA.out.place (by omega)
     obtain ⟨b2, o2, rfl⟩ := HB.out.place (by omega)
     have r1 := (HA.out.below hb).get hlt
     have r2 := (HB.out.below hb).get hlt2
     have HT2 : Hid (l[k] = m[k] -> l.take (k + 1) = m.take (k + 1)) := Lib.hid (fun e => by rw [List.take_succ_eq_append_getElem hlt, List.take_succ_eq_append_getElem hlt2, HT.out, e])
     obtain ⟨x, hx⟩ : ∃ x, l[k] = x := ⟨_, rfl⟩
     obtain ⟨y, hy⟩ : ∃ y, m[k] = y := ⟨_, rfl⟩
     rw [hx] at r1 HT2
     rw [hy] at r2 HT2
     have hx1 := cells16 r1
     have c0 := hx1.1
     have c1 := hx1.2.1
     have c2 := hx1.2.2.1
     have c3 := hx1.2.2.2.1
     have c4 := hx1.2.2.2.2.1
     have c5 := hx1.2.2.2.2.2.1
     have c6 := hx1.2.2.2.2.2.2.1
     have c7 := hx1.2.2.2.2.2.2.2.1
     have c8 := hx1.2.2.2.2.2.2.2.2.1
     have c9 := hx1.2.2.2.2.2.2.2.2.2.1
     have c10 := hx1.2.2.2.2.2.2.2.2.2.2.1
     have c11 := hx1.2.2.2.2.2.2.2.2.2.2.2.1
     have c12 := hx1.2.2.2.2.2.2.2.2.2.2.2.2.1
     have c13 := hx1.2.2.2.2.2.2.2.2.2.2.2.2.2.1
     have c14 := hx1.2.2.2.2.2.2.2.2.2.2.2.2.2.2.1
     have c15 := hx1.2.2.2.2.2.2.2.2.2.2.2.2.2.2.2
     clear hx1
     have BB := Lib.hid hb
     have hk3 : (0 : Int) <= (k : Int) := by omega
     clear hb hx hy HT HA HB HD
     by_cases hxy : x = y
     · as_aux_lemma =>
       subst hxy
       have HTN := Lib.hid (HT2.out rfl)
       have NE := fun u => neq_self x u
       rw [quadC_arr0] at NE
       have hx2 := cells16 r2
       have d0 := hx2.1
       have d1 := hx2.2.1
       have d2 := hx2.2.2.1
       have d3 := hx2.2.2.2.1
       have d4 := hx2.2.2.2.2.1
       have d5 := hx2.2.2.2.2.2.1
       have d6 := hx2.2.2.2.2.2.2.1
       have d7 := hx2.2.2.2.2.2.2.2.1
       have d8 := hx2.2.2.2.2.2.2.2.2.1
       have d9 := hx2.2.2.2.2.2.2.2.2.2.1
       have d10 := hx2.2.2.2.2.2.2.2.2.2.2.1
       have d11 := hx2.2.2.2.2.2.2.2.2.2.2.2.1
       have d12 := hx2.2.2.2.2.2.2.2.2.2.2.2.2.1
       have d13 := hx2.2.2.2.2.2.2.2.2.2.2.2.2.2.1
       have d14 := hx2.2.2.2.2.2.2.2.2.2.2.2.2.2.2.1
       have d15 := hx2.2.2.2.2.2.2.2.2.2.2.2.2.2.2.2
       clear hx2
       clear r1 r2 HT2 HN
       go_wp2_with fail
       go_quiet (fail)
       go_wp2_with fail
       go_roundw
       case rel => exact ⟨k + 1, by go_num, hlt, HTN, _root_.Go.below_drewN BB.out _⟩
       case measure => simp [intOf]; omega
     · as_aux_lemma =>
       have NE := fun u => neq_q x y u
       rw [decide_eq_false hxy] at NE
       dsimp only [qvE, Bool.not_false] at NE
       have hx3 := cells16 r2
       have d0 := hx3.1
       have d1 := hx3.2.1
       have d2 := hx3.2.2.1
       have d3 := hx3.2.2.2.1
       have d4 := hx3.2.2.2.2.1
       have d5 := hx3.2.2.2.2.2.1
       have d6 := hx3.2.2.2.2.2.2.1
       have d7 := hx3.2.2.2.2.2.2.2.1
       have d8 := hx3.2.2.2.2.2.2.2.2.1
       have d9 := hx3.2.2.2.2.2.2.2.2.2.1
       have d10 := hx3.2.2.2.2.2.2.2.2.2.2.1
       have d11 := hx3.2.2.2.2.2.2.2.2.2.2.2.1
       have d12 := hx3.2.2.2.2.2.2.2.2.2.2.2.2.1
       have d13 := hx3.2.2.2.2.2.2.2.2.2.2.2.2.2.1
       have d14 := hx3.2.2.2.2.2.2.2.2.2.2.2.2.2.2.1
       have d15 := hx3.2.2.2.2.2.2.2.2.2.2.2.2.2.2.2
       clear hx3
       clear r1 r2 HT2 HN hxy
       go_wp2_with fail
       go_quiet (fail)
       go_wp2_with fail
       go_ret
       exact ⟨rfl, _root_.Go.below_drewN BB.out _⟩
   · exact absurd (by
       obtain rfl : k = l.length := by omega
       have := HT.out
       rw [List.take_length, HN.out, List.take_length] at this
       exact this) HD.out
end Go.Proofs.YtmnigckpejcaeaaGreatDoor
