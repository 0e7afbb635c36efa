/-
  tesseraref10.iri: a contract. By an AI agent.
-/
import Derived.Test.YtdhmpakhdhdebaaGreatDoorZLexR3
namespace Go.Proofs.YtdhmpakhdhdebaaGreatDoor
open Go.Lib (hid)
open Go.RowKit
set_option maxRecDepth 100000
theorem noI_at (u : World) (k : Nat) (hk : k < 7) : (Instr.index 9 (.string { data := #[60, 34, 123, 125, 124, 94, 96] }) (.int .i64 (k : Int))).run Tryz.prog u = .ok (.int .u8 ((noI.getD k 0).toNat : Int)) u :=
 match k, hk with
 | 0, _ => by kernel_rfl
 | 1, _ => by kernel_rfl
 | 2, _ => by kernel_rfl
 | 3, _ => by kernel_rfl
 | 4, _ => by kernel_rfl
 | 5, _ => by kernel_rfl
 | 6, _ => by kernel_rfl
theorem noI_mem {k : Nat} (hk : k < 7) : noI.contains (noI.getD k 0) = true := by
 have h : k = 0 \/ k = 1 \/ k = 2 \/ k = 3 \/ k = 4 \/ k = 5 \/ k = 6 := by omega
 rcases h with rfl | rfl | rfl | rfl | rfl | rfl | rfl <;> rfl
theorem noI_all {c : UInt8} (h : ∀ k, k < 7 -> noI.getD k 0 ≠ c) : noI.contains c = false := by
 cases hc : noI.contains c with
 | false => rfl
 | true =>
  obtain ⟨k, hk, he⟩ := List.getElem_of_mem (List.contains_iff_mem.1 hc)
  exact absurd (by rw [<- he]; simp [List.getD, hk]) (h k (by simpa [noI] using hk))
set_option maxHeartbeats 6400000 in
theorem refIri10_l (l : List UInt8) (i : Nat) (w : World) (hi : i < l.length) (hl : l.length <= 1048576) :
  Calls Tryz.prog 111 #[.string (B l), .int .i64 (i : Int)] w fun e w' => TokRef e (iriG l i) /\ Below w.heap.size w w' := by
 obtain ⟨W, hW⟩ : ∃ W, (w.alloc (.cells #[.int .i64 0, .string ⟨#[]⟩, .string ⟨#[]⟩, .string ⟨#[]⟩, .int .i64 0, .int .i64 0] 50)).alloc (.cells #[.int .i64 0, .int .i64 0] 64) = W := ⟨_, rfl⟩
 have HB0 : Hid (Below w.heap.size w W) := hid (by rw [<- hW]; exact ((Below.refl _ _).alloc (Nat.le_refl _) _).alloc (by simp) _)
 have HK : Hid (TkAt W w.heap.size) := hid (by rw [<- hW]; exact tkr_new w)
 have k0 : (0 : Int) <= (i : Int) := by omega
 have k1 : (i : Int) <= (l.length : Int) := by omega
 obtain ⟨a0, a1, a2, a3, a4, a5, p0, p1, p2, p3, p4, p5, d0, d1, e0, e1, hlt⟩ := HK.out
 have hlt0 := Nat.lt_of_succ_lt hlt
 have WF : IntKind.i64.wrap ((i : Int) + 1) = (i : Int) + 1 := IntWalk.i64_in _ (by omega)
 have m0 : (0 : Int) <= (i : Int) + 1 := by omega
 have UN := hid (fun (s : List UInt8) (hs : s.length <= 1048576) (u : World) => refUnesc_l 2 s u (by omega))
 go_enter Tryz.func111, Tryz.ntmps111
 go_upto_block 0 with fail
 go_cut [6] from 12 (fun x6 wx => ∃ m : Nat, x6 = .int .i64 (m : Int) /\ i + 1 <= m /\ m <= l.length /\ Hid (scanI l (i + 1) = scanI l m) /\ Hid (m < l.length -> l.getD m 0 = 62) /\ Hid (TkAt wx w.heap.size) /\ Hid (Below w.heap.size w wx))
 case first =>
  go_wp2_with fail
  go_loopw [6] (fun z wr => ∃ j : Nat, z = .int .i64 (j : Int) /\ i + 1 <= j /\ j <= l.length /\ Hid (scanI l (i + 1) = scanI l j) /\ Hid (TkAt wr w.heap.size) /\ Hid (Below w.heap.size w wr)) (fun z _ => l.length - (intOf z).toNat)
  case atStart => exact ⟨i + 1, by go_num, by omega, by omega, hid rfl, HK, HB0⟩
  case round =>
   obtain ⟨j, rfl, hij, hj, HE, HK1, HB1⟩ := hrel
   clear HK HB0 a0 a1 a2 a3 a4 a5 p0 p1 p2 p3 p4 p5 d0 d1 e0 e1 hlt hlt0
   obtain ⟨W0, hW0⟩ : ∃ W0 : World, W0 = wr := ⟨_, rfl⟩
   subst hW0
   have j0 : (0 : Int) <= (j : Int) := by omega
   have WJ : IntKind.i64.wrap ((j : Int) + 1) = (j : Int) + 1 := IntWalk.i64_in _ (by omega)
   by_cases hjl : j < l.length
   ·have c1 : decide ((j : Int) < (l.length : Int)) = true := decide_eq_true (by omega)
    have c2 : decide (j < l.length) = true := decide_eq_true hjl
    have c3 : (j : Int) < (l.length : Int) := by omega
    have hg : l.getD j 0 = l[j] := by simp [List.getD, hjl]
    by_cases h62 : l[j] = 62
    ·have y62 : ((l[j].toNat : Int) != 62) = false := byte_eqi (d := 62) h62
     have HC : Hid (j < l.length -> l.getD j 0 = 62) := hid (fun _ => by rw [hg]; exact h62)
     clear hg h62
     go_wp2_with fail
     go_meet
     exact ⟨j, rfl, hij, hj, HE, HC, HK1, HB1⟩
    ·have y62 : ((l[j].toNat : Int) != 62) = true := byte_nei (d := 62) h62
     have HG := hid (And.intro hg h62)
     clear hg h62
     go_wp2_with fail
     go_loopw [7] (fun y wq => ∃ k : Nat, y = .int .i64 (k : Int) /\ k <= 7 /\ Hid (∀ q, q < k -> noI.getD q 0 ≠ l[j]) /\ Hid (0 < k -> 32 < l[j].toNat) /\ Hid (TkAt wq w.heap.size) /\ Hid (Below w.heap.size w wq)) (fun y _ => 7 - (intOf y).toNat)
     case atStart => exact ⟨0, rfl, Nat.zero_le _, hid (fun q h => by omega), hid (fun h => by omega), HK1, HB1⟩
     case round =>
      obtain ⟨k, rfl, hk7, HNO, H32, HK2, HB2⟩ := hrel
      clear HK1 HB1
      have k0' : (0 : Int) <= (k : Int) := by omega
      have WK : IntKind.i64.wrap ((k : Int) + 1) = (k : Int) + 1 := IntWalk.i64_in _ (by omega)
      by_cases hk : k < 7
      ·have t1 : decide ((k : Int) < 7) = true := decide_eq_true (by omega)
       have t2 : decide (k < 7) = true := decide_eq_true hk
       have IX := fun u => noI_at u k hk
       have hmem := noI_mem hk
       obtain ⟨n, hn⟩ : ∃ n, noI.getD k 0 = n := ⟨_, rfl⟩
       rw [hn] at IX hmem
       obtain ⟨a0, a1, a2, a3, a4, a5, p0, p1, p2, p3, p4, p5, d0, d1, e0, e1, hlt⟩ := HK2.out
       have hlt0 := Nat.lt_of_succ_lt hlt
       by_cases he : l[j] = n
       ·have q1 : ((l[j].toNat : Int) == (n.toNat : Int)) = true := byte_eq he
        have HI : Hid (iriG l i = .inr (j, 100)) := hid (by unfold iriG; rw [HE.out, scanI_bad hjl (by rw [HG.out.1]; exact HG.out.2) (by rw [HG.out.1]; unfold badI; rw [he, hmem, Bool.or_true])])
        clear HNO H32 hmem hn he
        go_wp2_with fail
        go_quiet (fail)
        go_wp2_with fail
        exact tokr_done rfl (HK2.out.drewN _) (below_drewN_h HB2.out _) rfl rfl (by rw [HI.out]; rfl)
       ·have q1 : ((l[j].toNat : Int) == (n.toNat : Int)) = false := byte_ne he
        by_cases h32 : l[j].toNat <= 32
        ·have q2 : decide ((l[j].toNat : Int) <= 32) = true := decide_eq_true (by omega)
         have HI : Hid (iriG l i = .inr (j, 100)) := hid (by unfold iriG; rw [HE.out, scanI_bad hjl (by rw [HG.out.1]; exact HG.out.2) (by rw [HG.out.1]; unfold badI; rw [decide_eq_true h32]; rfl)])
         clear HNO H32 hmem hn he h32
         go_wp2_with fail
         go_quiet (fail)
         go_wp2_with fail
         exact tokr_done rfl (HK2.out.drewN _) (below_drewN_h HB2.out _) rfl rfl (by rw [HI.out]; rfl)
        ·have q2 : decide ((l[j].toNat : Int) <= 32) = false := decide_eq_false (by omega)
         have HNO2 : Hid (∀ q, q < k + 1 -> noI.getD q 0 ≠ l[j]) := hid (fun q hq => by
          by_cases e : q = k
          ·rw [e, hn]; exact fun x => he x.symm
          ·exact HNO.out q (by omega))
         have H322 : Hid (0 < k + 1 -> 32 < l[j].toNat) := hid (fun _ => by omega)
         clear HNO H32 hmem hn he h32
         go_wp2_with fail
         go_quiet (fail)
         go_wp2_with fail
         go_roundw
         case rel => exact ⟨k + 1, by go_num, by omega, HNO2, H322, hid (HK2.out.drewN _), hid (below_drewN_h HB2.out _)⟩
         case measure => simp [intOf]; omega
      ·obtain rfl : k = 7 := by omega
       have HN : Hid (scanI l (i + 1) = scanI l (j + 1)) := hid (by rw [HE.out, scanI_go hjl (by rw [HG.out.1]; exact HG.out.2) (by rw [HG.out.1]; unfold badI; rw [noI_all HNO.out, decide_eq_false (by have := H32.out (by omega); omega)]; rfl)])
       clear HNO H32
       go_wp2_with fail
       go_roundw
       case rel => exact ⟨j + 1, by go_num, by omega, by omega, HN, HK2, HB2⟩
       case measure => simp [intOf]; omega
   ·have c1 : decide ((j : Int) < (l.length : Int)) = false := decide_eq_false (by omega)
    have c2 : decide (j < l.length) = false := decide_eq_false hjl
    have HC : Hid (j < l.length -> l.getD j 0 = 62) := hid (fun h => absurd h hjl)
    go_wp2_with fail
    go_meet
    exact ⟨j, rfl, hij, hj, HE, HC, HK1, HB1⟩
 case rest =>
  obtain ⟨m, rfl, him, hml, HE, HC, HK1, HB1⟩ := hcut
  clear HK HB0 a0 a1 a2 a3 a4 a5 p0 p1 p2 p3 p4 p5 d0 d1 e0 e1 hlt hlt0
  have HK := HK1
  have HB0 := HB1
  clear HK1 HB1
  obtain ⟨a0, a1, a2, a3, a4, a5, p0, p1, p2, p3, p4, p5, d0, d1, e0, e1, hlt⟩ := HK.out
  have hlt0 := Nat.lt_of_succ_lt hlt
  by_cases hm : m < l.length
  case neg =>
   have e9 : ((m : Int) == (l.length : Int)) = true := beq_iff_eq.2 (by omega)
   have HI : Hid (iriG l i = .inr (m, 100)) := hid (by unfold iriG; rw [HE.out, scanI_end (by omega), show l.length = m by omega])
   clear HE HC
   go_wp2_with fail
   exact tokr_done (V := wc) rfl HK.out HB0.out rfl rfl (by rw [HI.out]; rfl)
  have e9 : ((m : Int) == (l.length : Int)) = false := beq_eq_false_iff_ne.2 (by omega)
  have WM : IntKind.i64.wrap ((m : Int) + 1) = (m : Int) + 1 := IntWalk.i64_in _ (by omega)
  obtain ⟨s, hs⟩ : ∃ s, cutF l (i + 1) m = s := ⟨_, rfl⟩
  have hcut2 : List.take (m - (i + 1)) (List.drop (i + 1) l) = s := hs
  have hsl : s.length <= 1048576 := by rw [<- hs]; have := cutF_len l (i + 1) m; omega
  have m1 : (i : Int) + 1 <= (m : Int) := by omega
  have m2 : (m : Int) <= (l.length : Int) := by omega
  have U1 := hid (UN.out s hsl)
  obtain ⟨y, hy⟩ : ∃ y, unescF 2 s 0 = y := ⟨_, rfl⟩
  rw [hy] at U1
  have HS : Hid (scanI l (i + 1) = .inl m) := hid (by rw [HE.out, scanI_hit hm (HC.out hm)])
  clear UN HE HC
  rcases y with t | ⟨p, n⟩
  ·have HI : Hid (iriG l i = .inl ⟨1, t, [], [], (i : Nat), (m + 1 : Nat)⟩) := hid (by unfold iriG; rw [HS.out]; simp only; rw [hs, hy])
   have U2 : Hid (∀ u, Calls Tryz.prog 160 #[.string (B s), .int .i64 2] u fun e w' => e = .returned (.tuple #[.string (B t), .agg #[.int .i64 0, .int .i64 0]]) /\ Below u.heap.size u w') := U1
   clear U1 HS hs hy
   go_wp2_with (go_at_call 160; (with_reducible refine (U2.out _).mono ?_); rintro e w3 ⟨rfl, hb⟩; replace HK := hid (HK.out.below hb); replace HB0 := hid (HB0.out.trans (hb.mono HB0.out.size)); clear a0 a1 a2 a3 a4 a5 p0 p1 p2 p3 p4 p5 d0 d1 e0 e1 hlt hlt0 hb; obtain ⟨a0, a1, a2, a3, a4, a5, p0, p1, p2, p3, p4, p5, d0, d1, e0, e1, hlt⟩ := HK.out; have hlt0 := Nat.lt_of_succ_lt hlt)
   exact tokr_done_a (V := w3) rfl HK.out HB0.out rfl rfl (by rw [HI.out]; exact tokRef_of (t := ⟨1, t, [], [], (i : Nat), (m + 1 : Nat)⟩) rfl rfl rfl rfl (by simp only; omega))
  ·have HI : Hid (iriG l i = .inr (i + 1 + p, n)) := hid (by unfold iriG; rw [HS.out]; simp only; rw [hs, hy])
   have U2 : Hid (∀ u, Calls Tryz.prog 160 #[.string (B s), .int .i64 2] u fun e w' => e = .returned (.tuple #[.string ⟨#[]⟩, .agg #[.int .i64 (p : Int), .int .i64 n]]) /\ Below u.heap.size u w') := U1
   have hpl := (unesc_at 2 s s.length 0 p n (by omega) hy).1
   have hnz : ((n : Int) != 0) = true := by
    rcases (unesc_at 2 s s.length 0 p n (by omega) hy).2 with rfl | rfl <;> rfl
   have WP : IntKind.i64.wrap ((i : Int) + 1 + (p : Int)) = (i : Int) + 1 + (p : Int) := IntWalk.i64_in _ (by omega)
   clear U1 HS hs hy
   go_upto_region 13 with (go_at_call 160; (with_reducible refine (U2.out _).mono ?_); rintro e w3 ⟨rfl, hb⟩; replace HK := hid (HK.out.below hb); replace HB0 := hid (HB0.out.trans (hb.mono HB0.out.size)); clear a0 a1 a2 a3 a4 a5 p0 p1 p2 p3 p4 p5 d0 d1 e0 e1 hlt hlt0 hb; obtain ⟨a0, a1, a2, a3, a4, a5, p0, p1, p2, p3, p4, p5, d0, d1, e0, e1, hlt⟩ := HK.out; have hlt0 := Nat.lt_of_succ_lt hlt)
   obtain ⟨V, hV⟩ : ∃ V, w3.alloc (.cells #[.int .i64 (p : Int), .int .i64 n] 160) = V := ⟨_, rfl⟩
   rw [hV]
   have t8 := boxP_at (w := w3) (x := .int .i64 (p : Int)) (y := .int .i64 n) (T := 160)
   rw [hV] at t8
   obtain ⟨t0, t1⟩ := t8
   have hb : Below w3.heap.size w3 V := (by rw [<- hV]; exact (Below.refl _ _).alloc (Nat.le_refl _) _)
   have h81 : ¬ w3.heap.size = w.heap.size := by omega
   have h82 : ¬ w3.heap.size = w.heap.size + 1 := by omega
   clear hV
   replace HK := hid (HK.out.below hb); replace HB0 := hid (HB0.out.trans (hb.mono HB0.out.size)); clear a0 a1 a2 a3 a4 a5 p0 p1 p2 p3 p4 p5 d0 d1 e0 e1 hlt hlt0 hb; obtain ⟨a0, a1, a2, a3, a4, a5, p0, p1, p2, p3, p4, p5, d0, d1, e0, e1, hlt⟩ := HK.out; have hlt0 := Nat.lt_of_succ_lt hlt
   go_region
   all_goals (go_wp2_with fail)
   all_goals exact tokr_done_d (V := V) rfl HK.out HB0.out rfl rfl (by rw [HI.out]; show _ = _; rw [show (((i + 1 + p : Nat) : Nat) : Int) = (i : Int) + 1 + (p : Int) by omega])
end Go.Proofs.YtdhmpakhdhdebaaGreatDoor
namespace Go.Proofs.YtdhmpakhdhdebaaGreatDoor
open Go.Lib (hid)
open Go.RowKit
set_option maxRecDepth 100000
theorem three_i {l : List UInt8} {q : UInt8} {j : Nat} (h0 : j + 2 < l.length) : threeB l q j = (l[j] == q && (l[j + 1] == q && l[j + 2] == q)) := by
 unfold threeB
 rw [decide_eq_true h0, Bool.true_and]
 simp [List.getD, show j < l.length by omega, show j + 1 < l.length by omega, h0]
theorem three_no {l : List UInt8} {q : UInt8} {j : Nat} (h0 : ¬ j + 2 < l.length) : threeB l q j = false := by
 unfold threeB
 rw [decide_eq_false h0, Bool.false_and]
set_option maxHeartbeats 12800000 in
theorem refText_3 (l : List UInt8) (i : Nat) (w : World) (hi : i < l.length) (hl : l.length <= 1048576) (hq : l[i] = 34 \/ l[i] = 39) (h3 : threeB l l[i] i = true) :
  Calls Tryz.prog 115 #[.string (B l), .int .i64 (i : Int)] w fun e w' => TokRef e (quoteG l i) /\ Below w.heap.size w w' := by
 obtain ⟨W, hW⟩ : ∃ W, (w.alloc (.cells #[.int .i64 0, .string ⟨#[]⟩, .string ⟨#[]⟩, .string ⟨#[]⟩, .int .i64 0, .int .i64 0] 50)).alloc (.cells #[.int .i64 0, .int .i64 0] 64) = W := ⟨_, rfl⟩
 have HB0 : Hid (Below w.heap.size w W) := hid (by rw [<- hW]; exact ((Below.refl _ _).alloc (Nat.le_refl _) _).alloc (by simp) _)
 have HK : Hid (TkAt W w.heap.size) := hid (by rw [<- hW]; exact tkr_new w)
 have k0 : (0 : Int) <= (i : Int) := by omega
 have k1 : (i : Int) <= (l.length : Int) := by omega
 obtain ⟨a0, a1, a2, a3, a4, a5, p0, p1, p2, p3, p4, p5, d0, d1, e0, e1, hlt⟩ := HK.out
 have hlt0 := Nat.lt_of_succ_lt hlt
 have HTB : Hid (threeB l (l.getD i 0) i = true /\ l.getD i 0 = l[i]) := hid (by rw [show l.getD i 0 = l[i] by simp [List.getD, hi]]; exact ⟨h3, rfl⟩)
 have UN := hid (fun (s : List UInt8) (hs : s.length <= 1048576) (u : World) => refUnesc_l 1 s u (by omega))
 have i1 : (0 : Int) <= (i : Int) + 1 := by omega
 have i2 : (0 : Int) <= (i : Int) + 2 := by omega
 have i3 : (i : Int) < (l.length : Int) := by omega
 have W1 : IntKind.i64.wrap ((i : Int) + 1) = (i : Int) + 1 := IntWalk.i64_in _ (by omega)
 have W2 : IntKind.i64.wrap ((i : Int) + 2) = (i : Int) + 2 := IntWalk.i64_in _ (by omega)
 have W3 : IntKind.i64.wrap ((i : Int) + 3) = (i : Int) + 3 := IntWalk.i64_in _ (by omega)
 have hlen : i + 2 < l.length := by
  by_cases h : i + 2 < l.length
  ·exact h
  ·rw [three_no h] at h3; cases h3
 rw [three_i hlen] at h3
 simp only [Bool.and_eq_true, beq_iff_eq] at h3
 have q1 : ((l[i + 1].toNat : Int) == (l[i].toNat : Int)) = true := byte_eq h3.2.1
 have q2 : ((l[i + 2].toNat : Int) == (l[i].toNat : Int)) = true := byte_eq h3.2.2
 have q3 : decide ((i : Int) + 2 < (l.length : Int)) = true := decide_eq_true (by omega)
 have q4 : decide (i + 2 < l.length) = true := decide_eq_true hlen
 have q5 : (i : Int) + 2 < (l.length : Int) := by omega
 have q6 : (i : Int) + 1 < (l.length : Int) := by omega
 clear h3
 go_enter Tryz.func115, Tryz.ntmps115
 go_wp2_with fail
 go_loopw [8] (fun z wr => ∃ j : Nat, z = .int .i64 (j : Int) /\ i + 3 <= j /\ j <= l.length + 1 /\ Hid (scanQ l l[i] true (i + 3) = scanQ l l[i] true j) /\ wr = W) (fun z _ => l.length + 1 - (intOf z).toNat)
 case atStart => exact ⟨i + 3, by go_num, by omega, by omega, hid rfl, rfl⟩
 case round =>
  obtain ⟨j, rfl, hij, hj, HE, rfl⟩ := hrel
  have j0 : (0 : Int) <= (j : Int) := by omega
  have j1 : (0 : Int) <= (j : Int) + 1 := by omega
  have j2 : (0 : Int) <= (j : Int) + 2 := by omega
  have WJ1 : IntKind.i64.wrap ((j : Int) + 1) = (j : Int) + 1 := IntWalk.i64_in _ (by omega)
  have WJ2 : IntKind.i64.wrap ((j : Int) + 2) = (j : Int) + 2 := IntWalk.i64_in _ (by omega)
  have WJ3 : IntKind.i64.wrap ((j : Int) + 1 + 1) = (j : Int) + 1 + 1 := IntWalk.i64_in _ (by omega)
  by_cases hjl : j < l.length
  case neg =>
   have c1 : decide ((j : Int) < (l.length : Int)) = false := decide_eq_false (by omega)
   have c2 : decide (j < l.length) = false := decide_eq_false hjl
   have HI : Hid (quoteG l i = .inr (l.length, 100)) := hid (by unfold quoteG; rw [HTB.out.1, HTB.out.2, show markN true = 3 from rfl, HE.out, scanQ_end (by omega)])
   clear HE UN HTB
   go_wp2_with fail
   exact tokr_done (V := wr) rfl HK.out HB0.out rfl rfl (by rw [HI.out]; rfl)
  have c1 : decide ((j : Int) < (l.length : Int)) = true := decide_eq_true (by omega)
  have c2 : decide (j < l.length) = true := decide_eq_true hjl
  have c3 : (j : Int) < (l.length : Int) := by omega
  have hg : l.getD j 0 = l[j] := by simp [List.getD, hjl]
  by_cases h92 : l[j] = 92
  ·have y92 : ((l[j].toNat : Int) == 92) = true := by rw [h92]; rfl
   have hcl : closeB l l[i] true j = false := by
    unfold closeB; rw [if_pos rfl]
    by_cases h : j + 2 < l.length
    ·rw [three_i h, h92, beq_eq_false_iff_ne.2 (fun e => by rcases hq with h | h <;> rw [h] at e <;> exact absurd e (by decide))]; rfl
    ·exact three_no h
   have HN : Hid (scanQ l l[i] true (i + 3) = scanQ l l[i] true (j + 2)) := hid (by rw [HE.out, scanQ_esc hjl hcl (by rw [hg]; exact h92) (.inl rfl)])
   clear HE UN HTB
   go_wp2_with fail
   go_roundw
   case rel => exact ⟨j + 2, by go_num, by omega, by omega, HN, by first | rfl | trivial⟩
   case measure => simp [intOf]; omega
  have n92 : ((l[j].toNat : Int) == 92) = false := byte_ne (d := 92) h92
  by_cases hcq : l[j] = l[i]
  case neg =>
   have yq : ((l[j].toNat : Int) == (l[i].toNat : Int)) = false := byte_ne hcq
   have hcl : closeB l l[i] true j = false := by
    unfold closeB; rw [if_pos rfl]
    by_cases h : j + 2 < l.length
    ·rw [three_i h, beq_eq_false_iff_ne.2 hcq]; rfl
    ·exact three_no h
   have HN : Hid (scanQ l l[i] true (i + 3) = scanQ l l[i] true (j + 1)) := hid (by rw [HE.out, scanQ_go hjl hcl (by rw [hg]; exact h92) (.inl rfl)])
   clear HE UN HTB
   go_wp2_with fail
   go_roundw
   case rel => exact ⟨j + 1, by go_num, by omega, by omega, HN, by first | rfl | trivial⟩
   case measure => simp [intOf]; omega
  have yq : ((l[j].toNat : Int) == (l[i].toNat : Int)) = true := byte_eq hcq
  by_cases hj2 : j + 2 < l.length
  case neg =>
   have e1 : decide ((j : Int) + 2 < (l.length : Int)) = false := decide_eq_false (by omega)
   have e2 : decide (j + 2 < l.length) = false := decide_eq_false hj2
   have hcl : closeB l l[i] true j = false := by unfold closeB; rw [if_pos rfl]; exact three_no hj2
   have HN : Hid (scanQ l l[i] true (i + 3) = scanQ l l[i] true (j + 1)) := hid (by rw [HE.out, scanQ_go hjl hcl (by rw [hg]; exact h92) (.inl rfl)])
   clear HE UN HTB
   go_wp2_with fail
   go_roundw
   case rel => exact ⟨j + 1, by go_num, by omega, by omega, HN, by first | rfl | trivial⟩
   case measure => simp [intOf]; omega
  have e1 : decide ((j : Int) + 2 < (l.length : Int)) = true := decide_eq_true (by omega)
  have e2 : decide (j + 2 < l.length) = true := decide_eq_true hj2
  have e3 : (j : Int) + 2 < (l.length : Int) := by omega
  have e4 : (j : Int) + 1 < (l.length : Int) := by omega
  by_cases hc1 : l[j + 1] = l[i]
  case neg =>
   have w1 : ((l[j + 1].toNat : Int) == (l[i].toNat : Int)) = false := byte_ne hc1
   have hcl : closeB l l[i] true j = false := by unfold closeB; rw [if_pos rfl, three_i hj2, beq_eq_false_iff_ne.2 hc1]; simp
   have HN : Hid (scanQ l l[i] true (i + 3) = scanQ l l[i] true (j + 1)) := hid (by rw [HE.out, scanQ_go hjl hcl (by rw [hg]; exact h92) (.inl rfl)])
   clear HE UN HTB
   go_wp2_with fail
   go_roundw
   case rel => exact ⟨j + 1, by go_num, by omega, by omega, HN, by first | rfl | trivial⟩
   case measure => simp [intOf]; omega
  have w1 : ((l[j + 1].toNat : Int) == (l[i].toNat : Int)) = true := byte_eq hc1
  by_cases hc2 : l[j + 2] = l[i]
  case neg =>
   have w2 : ((l[j + 2].toNat : Int) == (l[i].toNat : Int)) = false := byte_ne hc2
   have hcl : closeB l l[i] true j = false := by unfold closeB; rw [if_pos rfl, three_i hj2, beq_eq_false_iff_ne.2 hc2]; simp
   have HN : Hid (scanQ l l[i] true (i + 3) = scanQ l l[i] true (j + 1)) := hid (by rw [HE.out, scanQ_go hjl hcl (by rw [hg]; exact h92) (.inl rfl)])
   clear HE UN HTB
   go_wp2_with fail
   go_roundw
   case rel => exact ⟨j + 1, by go_num, by omega, by omega, HN, by first | rfl | trivial⟩
   case measure => simp [intOf]; omega
  have w2 : ((l[j + 2].toNat : Int) == (l[i].toNat : Int)) = true := byte_eq hc2
  have HS : Hid (scanQ l l[i] true (i + 3) = .inl j) := hid (by rw [HE.out, scanQ_hit hjl (by unfold closeB; rw [if_pos rfl, three_i hj2, hcq, hc1, hc2, beq_self_eq_true]; rfl)])
  obtain ⟨s, hs⟩ : ∃ s, cutF l (i + 3) j = s := ⟨_, rfl⟩
  have hcut2 : List.take (j - (i + 3)) (List.drop (i + 3) l) = s := hs
  have hsl : s.length <= 1048576 := by rw [<- hs]; have := cutF_len l (i + 3) j; omega
  have m0 : (0 : Int) <= (i : Int) + 3 := by omega
  have m1 : (i : Int) + 3 <= (j : Int) := by omega
  have m2 : (j : Int) <= (l.length : Int) := by omega
  have WN : IntKind.i64.wrap ((j : Int) + 3) = (j : Int) + 3 := IntWalk.i64_in _ (by omega)
  have U1 := hid (UN.out s hsl)
  obtain ⟨y, hy⟩ : ∃ y, unescF 1 s 0 = y := ⟨_, rfl⟩
  rw [hy] at U1
  rcases y with t | ⟨p, n⟩
  ·have HI : Hid (quoteG l i = .inl ⟨4, t, [], [], (i : Nat), (j + 3 : Nat)⟩) := hid (by unfold quoteG; rw [HTB.out.1, HTB.out.2, show markN true = 3 from rfl, HS.out]; simp only; rw [hs, hy])
   have U2 : Hid (∀ u, Calls Tryz.prog 160 #[.string (B s), .int .i64 1] u fun e w' => e = .returned (.tuple #[.string (B t), .agg #[.int .i64 0, .int .i64 0]]) /\ Below u.heap.size u w') := U1
   clear U1 HS hs hy HE UN
   go_wp2_with (go_at_call 160; (with_reducible refine (U2.out _).mono ?_); rintro e w3 ⟨rfl, hb⟩; replace HK := hid (HK.out.below hb); replace HB0 := hid (HB0.out.trans (hb.mono HB0.out.size)); clear a0 a1 a2 a3 a4 a5 p0 p1 p2 p3 p4 p5 d0 d1 e0 e1 hlt hlt0 hb; obtain ⟨a0, a1, a2, a3, a4, a5, p0, p1, p2, p3, p4, p5, d0, d1, e0, e1, hlt⟩ := HK.out; have hlt0 := Nat.lt_of_succ_lt hlt)
   exact tokr_done_a (V := w3) rfl HK.out HB0.out rfl rfl (by rw [HI.out]; exact tokRef_of (t := ⟨4, t, [], [], (i : Nat), (j + 3 : Nat)⟩) rfl rfl rfl rfl (by simp only; omega))
  ·have HI : Hid (quoteG l i = .inr (i + 3 + p, n)) := hid (by unfold quoteG; rw [HTB.out.1, HTB.out.2, show markN true = 3 from rfl, HS.out]; simp only; rw [hs, hy])
   have U2 : Hid (∀ u, Calls Tryz.prog 160 #[.string (B s), .int .i64 1] u fun e w' => e = .returned (.tuple #[.string ⟨#[]⟩, .agg #[.int .i64 (p : Int), .int .i64 n]]) /\ Below u.heap.size u w') := U1
   have hpl := (unesc_at 1 s s.length 0 p n (by omega) hy).1
   have hnz : ((n : Int) != 0) = true := by
    rcases (unesc_at 1 s s.length 0 p n (by omega) hy).2 with rfl | rfl <;> rfl
   have WP : IntKind.i64.wrap ((i : Int) + 3 + (p : Int)) = (i : Int) + 3 + (p : Int) := IntWalk.i64_in _ (by omega)
   clear U1 HS hs hy HE UN
   go_upto_region 17 with (go_at_call 160; (with_reducible refine (U2.out _).mono ?_); rintro e w3 ⟨rfl, hb⟩; replace HK := hid (HK.out.below hb); replace HB0 := hid (HB0.out.trans (hb.mono HB0.out.size)); clear a0 a1 a2 a3 a4 a5 p0 p1 p2 p3 p4 p5 d0 d1 e0 e1 hlt hlt0 hb; obtain ⟨a0, a1, a2, a3, a4, a5, p0, p1, p2, p3, p4, p5, d0, d1, e0, e1, hlt⟩ := HK.out; have hlt0 := Nat.lt_of_succ_lt hlt)
   obtain ⟨V, hV⟩ : ∃ V, w3.alloc (.cells #[.int .i64 (p : Int), .int .i64 n] 160) = V := ⟨_, rfl⟩
   rw [hV]
   have t8 := boxP_at (w := w3) (x := .int .i64 (p : Int)) (y := .int .i64 n) (T := 160)
   rw [hV] at t8
   obtain ⟨t0, t1⟩ := t8
   have hb : Below w3.heap.size w3 V := (by rw [<- hV]; exact (Below.refl _ _).alloc (Nat.le_refl _) _)
   have h81 : ¬ w3.heap.size = w.heap.size := by omega
   have h82 : ¬ w3.heap.size = w.heap.size + 1 := by omega
   clear hV
   replace HK := hid (HK.out.below hb); replace HB0 := hid (HB0.out.trans (hb.mono HB0.out.size)); clear a0 a1 a2 a3 a4 a5 p0 p1 p2 p3 p4 p5 d0 d1 e0 e1 hlt hlt0 hb; obtain ⟨a0, a1, a2, a3, a4, a5, p0, p1, p2, p3, p4, p5, d0, d1, e0, e1, hlt⟩ := HK.out; have hlt0 := Nat.lt_of_succ_lt hlt
   go_region
   all_goals (go_wp2_with fail)
   all_goals exact tokr_done_d (V := V) rfl HK.out HB0.out rfl rfl (by rw [HI.out]; show _ = _; rw [show (((i + 3 + p : Nat) : Nat) : Int) = (i : Int) + 3 + (p : Int) by omega])
end Go.Proofs.YtdhmpakhdhdebaaGreatDoor
namespace Go.Proofs.YtdhmpakhdhdebaaGreatDoor
open Go.Lib (hid)
open Go.RowKit
set_option maxRecDepth 100000
set_option maxHeartbeats 12800000 in
theorem refText_1 (l : List UInt8) (i : Nat) (w : World) (hi : i < l.length) (hl : l.length <= 1048576) (hq : l[i] = 34 \/ l[i] = 39) (h3 : threeB l l[i] i = false) :
  Calls Tryz.prog 115 #[.string (B l), .int .i64 (i : Int)] w fun e w' => TokRef e (quoteG l i) /\ Below w.heap.size w w' := by
 obtain ⟨W, hW⟩ : ∃ W, (w.alloc (.cells #[.int .i64 0, .string ⟨#[]⟩, .string ⟨#[]⟩, .string ⟨#[]⟩, .int .i64 0, .int .i64 0] 50)).alloc (.cells #[.int .i64 0, .int .i64 0] 64) = W := ⟨_, rfl⟩
 have HB0 : Hid (Below w.heap.size w W) := hid (by rw [<- hW]; exact ((Below.refl _ _).alloc (Nat.le_refl _) _).alloc (by simp) _)
 have HK : Hid (TkAt W w.heap.size) := hid (by rw [<- hW]; exact tkr_new w)
 have k0 : (0 : Int) <= (i : Int) := by omega
 have k1 : (i : Int) <= (l.length : Int) := by omega
 obtain ⟨a0, a1, a2, a3, a4, a5, p0, p1, p2, p3, p4, p5, d0, d1, e0, e1, hlt⟩ := HK.out
 have hlt0 := Nat.lt_of_succ_lt hlt
 have HTB : Hid (threeB l (l.getD i 0) i = false /\ l.getD i 0 = l[i]) := hid (by rw [show l.getD i 0 = l[i] by simp [List.getD, hi]]; exact ⟨h3, rfl⟩)
 have UN := hid (fun (s : List UInt8) (hs : s.length <= 1048576) (u : World) => refUnesc_l 1 s u (by omega))
 have i1 : (0 : Int) <= (i : Int) + 1 := by omega
 have i2 : (0 : Int) <= (i : Int) + 2 := by omega
 have i3 : (i : Int) < (l.length : Int) := by omega
 have W1 : IntKind.i64.wrap ((i : Int) + 1) = (i : Int) + 1 := IntWalk.i64_in _ (by omega)
 have W2 : IntKind.i64.wrap ((i : Int) + 2) = (i : Int) + 2 := IntWalk.i64_in _ (by omega)
 have W3 : IntKind.i64.wrap ((i : Int) + 3) = (i : Int) + 3 := IntWalk.i64_in _ (by omega)
 have R : (¬ i + 2 < l.length) \/ (∃ h : i + 2 < l.length, l[i + 1] ≠ l[i]) \/ (∃ h : i + 2 < l.length, l[i + 1] = l[i] /\ l[i + 2] ≠ l[i]) := by
  by_cases h : i + 2 < l.length
  ·rw [three_i h, beq_self_eq_true, Bool.true_and] at h3
   by_cases h4 : l[i + 1] = l[i]
   ·refine .inr (.inr ⟨h, h4, fun h5 => ?_⟩)
    rw [h4, h5] at h3
    simp at h3
   ·exact .inr (.inl ⟨h, h4⟩)
  ·exact .inl h
 clear h3
 go_enter Tryz.func115, Tryz.ntmps115
 go_upto_region 3 with fail
 go_cut [34] from 14 to 34 (fun x34 wx => x34 = .bool false /\ W = wx)
 case first =>
  rcases R with h | ⟨h, h4⟩ | ⟨h, h4, h5⟩
  ·have q3 : decide ((i : Int) + 2 < (l.length : Int)) = false := decide_eq_false (by omega)
   have q4 : decide (i + 2 < l.length) = false := decide_eq_false h
   go_wp2_with fail
   go_meet
   exact ⟨rfl, rfl⟩
  ·have q3 : decide ((i : Int) + 2 < (l.length : Int)) = true := decide_eq_true (by omega)
   have q4 : decide (i + 2 < l.length) = true := decide_eq_true h
   have q5 : (i : Int) + 2 < (l.length : Int) := by omega
   have q6 : (i : Int) + 1 < (l.length : Int) := by omega
   have q1 : ((l[i + 1].toNat : Int) == (l[i].toNat : Int)) = false := byte_ne h4
   go_wp2_with fail
   go_meet
   exact ⟨rfl, rfl⟩
  ·have q3 : decide ((i : Int) + 2 < (l.length : Int)) = true := decide_eq_true (by omega)
   have q4 : decide (i + 2 < l.length) = true := decide_eq_true h
   have q5 : (i : Int) + 2 < (l.length : Int) := by omega
   have q6 : (i : Int) + 1 < (l.length : Int) := by omega
   have q1 : ((l[i + 1].toNat : Int) == (l[i].toNat : Int)) = true := byte_eq h4
   have q2 : ((l[i + 2].toNat : Int) == (l[i].toNat : Int)) = false := byte_ne h5
   go_wp2_with fail
   go_meet
   exact ⟨rfl, rfl⟩
 case rest =>
  obtain ⟨rfl, rfl⟩ := hcut
  clear R
  go_wp2_with fail
  go_loopw [8] (fun z wr => ∃ j : Nat, z = .int .i64 (j : Int) /\ i + 1 <= j /\ j <= l.length + 1 /\ Hid (scanQ l l[i] false (i + 1) = scanQ l l[i] false j) /\ wr = W) (fun z _ => l.length + 1 - (intOf z).toNat)
  case atStart => exact ⟨i + 1, by go_num, by omega, by omega, hid rfl, rfl⟩
  case round =>
   obtain ⟨j, rfl, hij, hj, HE, rfl⟩ := hrel
   have j0 : (0 : Int) <= (j : Int) := by omega
   have j1 : (0 : Int) <= (j : Int) + 1 := by omega
   have j2 : (0 : Int) <= (j : Int) + 2 := by omega
   have WJ1 : IntKind.i64.wrap ((j : Int) + 1) = (j : Int) + 1 := IntWalk.i64_in _ (by omega)
   have WJ2 : IntKind.i64.wrap ((j : Int) + 2) = (j : Int) + 2 := IntWalk.i64_in _ (by omega)
   have WJ3 : IntKind.i64.wrap ((j : Int) + 1 + 1) = (j : Int) + 1 + 1 := IntWalk.i64_in _ (by omega)
   by_cases hjl : j < l.length
   case neg =>
    have c1 : decide ((j : Int) < (l.length : Int)) = false := decide_eq_false (by omega)
    have c2 : decide (j < l.length) = false := decide_eq_false hjl
    have HI : Hid (quoteG l i = .inr (l.length, 100)) := hid (by unfold quoteG; rw [HTB.out.1, HTB.out.2, show markN false = 1 from rfl, HE.out, scanQ_end (by omega)])
    clear HE UN HTB
    go_wp2_with fail
    exact tokr_done (V := wr) rfl HK.out HB0.out rfl rfl (by rw [HI.out]; rfl)
   have c1 : decide ((j : Int) < (l.length : Int)) = true := decide_eq_true (by omega)
   have c2 : decide (j < l.length) = true := decide_eq_true hjl
   have c3 : (j : Int) < (l.length : Int) := by omega
   have hg : l.getD j 0 = l[j] := by simp [List.getD, hjl]
   by_cases h13 : l[j] = 13
   ·have y13 : ((l[j].toNat : Int) == 13) = true := by rw [h13]; rfl
    have HI : Hid (quoteG l i = .inr (j, 100)) := hid (by unfold quoteG; rw [HTB.out.1, HTB.out.2, show markN false = 1 from rfl, HE.out, scanQ_eol hjl (by unfold closeB; rw [if_neg (by simp), hg, h13]; exact beq_eq_false_iff_ne.2 (fun e => by rcases hq with h | h <;> rw [h] at e <;> exact absurd e (by decide))) (by rw [hg, h13]; rfl)])
    clear HE UN HTB
    go_wp2_with fail
    exact tokr_done (V := wr) rfl HK.out HB0.out rfl rfl (by rw [HI.out]; rfl)
   have n13 : ((l[j].toNat : Int) == 13) = false := byte_ne (d := 13) h13
   by_cases h10 : l[j] = 10
   ·have y10 : ((l[j].toNat : Int) == 10) = true := by rw [h10]; rfl
    have z13 : ((l[j].toNat : Int) == 13) = false := by rw [h10]; rfl
    have HI : Hid (quoteG l i = .inr (j, 100)) := hid (by unfold quoteG; rw [HTB.out.1, HTB.out.2, show markN false = 1 from rfl, HE.out, scanQ_eol hjl (by unfold closeB; rw [if_neg (by simp), hg, h10]; exact beq_eq_false_iff_ne.2 (fun e => by rcases hq with h | h <;> rw [h] at e <;> exact absurd e (by decide))) (by rw [hg, h10]; rfl)])
    clear HE UN HTB
    go_wp2_with fail
    exact tokr_done (V := wr) rfl HK.out HB0.out rfl rfl (by rw [HI.out]; rfl)
   have n10 : ((l[j].toNat : Int) == 10) = false := byte_ne (d := 10) h10
   have ne : eolC l[j] = false := by unfold eolC; simp [h10, h13]
   by_cases h92 : l[j] = 92
   ·have y92 : ((l[j].toNat : Int) == 92) = true := by rw [h92]; rfl
    have hcl : closeB l l[i] false j = false := by
     unfold closeB; rw [if_neg (by simp), hg, h92]; exact beq_eq_false_iff_ne.2 (fun e => by rcases hq with h | h <;> rw [h] at e <;> exact absurd e (by decide))
    by_cases hj1 : j + 1 < l.length
    case neg =>
     have e1 : decide ((j : Int) + 1 < (l.length : Int)) = false := decide_eq_false (by omega)
     have e2 : decide (j + 1 < l.length) = false := decide_eq_false hj1
     have HN : Hid (scanQ l l[i] false (i + 1) = scanQ l l[i] false (j + 2)) := hid (by rw [HE.out, scanQ_esc hjl hcl (by rw [hg]; exact h92) (.inr (.inl (by omega)))])
     clear HE UN HTB
     go_wp2_with fail
     go_roundw
     case rel => exact ⟨j + 2, by go_num, by omega, by omega, HN, by first | rfl | trivial⟩
     case measure => simp [intOf]; omega
    have e1 : decide ((j : Int) + 1 < (l.length : Int)) = true := decide_eq_true (by omega)
    have e2 : decide (j + 1 < l.length) = true := decide_eq_true hj1
    have e3 : (j : Int) + 1 < (l.length : Int) := by omega
    have hg1 : l.getD (j + 1) 0 = l[j + 1] := by simp [List.getD, hj1]
    by_cases g13 : l[j + 1] = 13
    ·have v13 : ((l[j + 1].toNat : Int) == 13) = true := by rw [g13]; rfl
     have HI : Hid (quoteG l i = .inr (j + 1, 100)) := hid (by unfold quoteG; rw [HTB.out.1, HTB.out.2, show markN false = 1 from rfl, HE.out, scanQ_esc_eol hj1 hcl (by rw [hg]; exact h92) (by rw [hg1, g13]; rfl)])
     clear HE UN HTB
     go_wp2_with fail
     exact tokr_done (V := wr) rfl HK.out HB0.out rfl rfl (by rw [HI.out]; rfl)
    have u13 : ((l[j + 1].toNat : Int) == 13) = false := byte_ne (d := 13) g13
    by_cases g10 : l[j + 1] = 10
    ·have v10 : ((l[j + 1].toNat : Int) == 10) = true := by rw [g10]; rfl
     have v13 : ((l[j + 1].toNat : Int) == 13) = false := by rw [g10]; rfl
     have HI : Hid (quoteG l i = .inr (j + 1, 100)) := hid (by unfold quoteG; rw [HTB.out.1, HTB.out.2, show markN false = 1 from rfl, HE.out, scanQ_esc_eol hj1 hcl (by rw [hg]; exact h92) (by rw [hg1, g10]; rfl)])
     clear HE UN HTB
     go_wp2_with fail
     exact tokr_done (V := wr) rfl HK.out HB0.out rfl rfl (by rw [HI.out]; rfl)
    have u10 : ((l[j + 1].toNat : Int) == 10) = false := byte_ne (d := 10) g10
    have HN : Hid (scanQ l l[i] false (i + 1) = scanQ l l[i] false (j + 2)) := hid (by rw [HE.out, scanQ_esc hjl hcl (by rw [hg]; exact h92) (.inr (.inr (by rw [hg1]; unfold eolC; simp [g10, g13])))])
    clear HE UN HTB
    go_wp2_with fail
    go_roundw
    case rel => exact ⟨j + 2, by go_num, by omega, by omega, HN, by first | rfl | trivial⟩
    case measure => simp [intOf]; omega
   have n92 : ((l[j].toNat : Int) == 92) = false := byte_ne (d := 92) h92
   by_cases hcq : l[j] = l[i]
   case neg =>
    have yq : ((l[j].toNat : Int) == (l[i].toNat : Int)) = false := byte_ne hcq
    have hcl : closeB l l[i] false j = false := by
     unfold closeB; rw [if_neg (by simp), hg]; exact beq_eq_false_iff_ne.2 hcq
    have HN : Hid (scanQ l l[i] false (i + 1) = scanQ l l[i] false (j + 1)) := hid (by rw [HE.out, scanQ_go hjl hcl (by rw [hg]; exact h92) (.inr (by rw [hg]; exact ne))])
    clear HE UN HTB
    go_wp2_with fail
    go_roundw
    case rel => exact ⟨j + 1, by go_num, by omega, by omega, HN, by first | rfl | trivial⟩
    case measure => simp [intOf]; omega
   have yq : ((l[j].toNat : Int) == (l[i].toNat : Int)) = true := byte_eq hcq
   have HS : Hid (scanQ l l[i] false (i + 1) = .inl j) := hid (by rw [HE.out, scanQ_hit hjl (by unfold closeB; rw [if_neg (by simp), hg, hcq, beq_self_eq_true])])
   have m13 : ((l[i].toNat : Int) == 13) = false := byte_ne (d := 13) (fun e => h13 (hcq.trans e))
   have m10 : ((l[i].toNat : Int) == 10) = false := byte_ne (d := 10) (fun e => h10 (hcq.trans e))
   have m92 : ((l[i].toNat : Int) == 92) = false := byte_ne (d := 92) (fun e => h92 (hcq.trans e))
   clear hcq
   obtain ⟨s, hs⟩ : ∃ s, cutF l (i + 1) j = s := ⟨_, rfl⟩
   have hcut2 : List.take (j - (i + 1)) (List.drop (i + 1) l) = s := hs
   have hsl : s.length <= 1048576 := by rw [<- hs]; have := cutF_len l (i + 1) j; omega
   have m0 : (0 : Int) <= (i : Int) + 1 := by omega
   have m1 : (i : Int) + 1 <= (j : Int) := by omega
   have m2 : (j : Int) <= (l.length : Int) := by omega
   have WN : IntKind.i64.wrap ((j : Int) + 1) = (j : Int) + 1 := IntWalk.i64_in _ (by omega)
   have U1 := hid (UN.out s hsl)
   obtain ⟨y, hy⟩ : ∃ y, unescF 1 s 0 = y := ⟨_, rfl⟩
   rw [hy] at U1
   rcases y with t | ⟨p, n⟩
   ·have HI : Hid (quoteG l i = .inl ⟨4, t, [], [], (i : Nat), (j + 1 : Nat)⟩) := hid (by unfold quoteG; rw [HTB.out.1, HTB.out.2, show markN false = 1 from rfl, HS.out]; simp only; rw [hs, hy])
    have U2 : Hid (∀ u, Calls Tryz.prog 160 #[.string (B s), .int .i64 1] u fun e w' => e = .returned (.tuple #[.string (B t), .agg #[.int .i64 0, .int .i64 0]]) /\ Below u.heap.size u w') := U1
    clear U1 HS hs hy HE UN
    go_wp2_with (go_at_call 160; (with_reducible refine (U2.out _).mono ?_); rintro e w3 ⟨rfl, hb⟩; replace HK := hid (HK.out.below hb); replace HB0 := hid (HB0.out.trans (hb.mono HB0.out.size)); clear a0 a1 a2 a3 a4 a5 p0 p1 p2 p3 p4 p5 d0 d1 e0 e1 hlt hlt0 hb; obtain ⟨a0, a1, a2, a3, a4, a5, p0, p1, p2, p3, p4, p5, d0, d1, e0, e1, hlt⟩ := HK.out; have hlt0 := Nat.lt_of_succ_lt hlt)
    exact tokr_done_a (V := w3) rfl HK.out HB0.out rfl rfl (by rw [HI.out]; exact tokRef_of (t := ⟨4, t, [], [], (i : Nat), (j + 1 : Nat)⟩) rfl rfl rfl rfl (by simp only; omega))
   ·have HI : Hid (quoteG l i = .inr (i + 1 + p, n)) := hid (by unfold quoteG; rw [HTB.out.1, HTB.out.2, show markN false = 1 from rfl, HS.out]; simp only; rw [hs, hy])
    have U2 : Hid (∀ u, Calls Tryz.prog 160 #[.string (B s), .int .i64 1] u fun e w' => e = .returned (.tuple #[.string ⟨#[]⟩, .agg #[.int .i64 (p : Int), .int .i64 n]]) /\ Below u.heap.size u w') := U1
    have hpl := (unesc_at 1 s s.length 0 p n (by omega) hy).1
    have hnz : ((n : Int) != 0) = true := by
     rcases (unesc_at 1 s s.length 0 p n (by omega) hy).2 with rfl | rfl <;> rfl
    have WP : IntKind.i64.wrap ((i : Int) + 1 + (p : Int)) = (i : Int) + 1 + (p : Int) := IntWalk.i64_in _ (by omega)
    clear U1 HS hs hy HE UN
    go_upto_region 17 with (go_at_call 160; (with_reducible refine (U2.out _).mono ?_); rintro e w3 ⟨rfl, hb⟩; replace HK := hid (HK.out.below hb); replace HB0 := hid (HB0.out.trans (hb.mono HB0.out.size)); clear a0 a1 a2 a3 a4 a5 p0 p1 p2 p3 p4 p5 d0 d1 e0 e1 hlt hlt0 hb; obtain ⟨a0, a1, a2, a3, a4, a5, p0, p1, p2, p3, p4, p5, d0, d1, e0, e1, hlt⟩ := HK.out; have hlt0 := Nat.lt_of_succ_lt hlt)
    obtain ⟨V, hV⟩ : ∃ V, w3.alloc (.cells #[.int .i64 (p : Int), .int .i64 n] 160) = V := ⟨_, rfl⟩
    rw [hV]
    have t8 := boxP_at (w := w3) (x := .int .i64 (p : Int)) (y := .int .i64 n) (T := 160)
    rw [hV] at t8
    obtain ⟨t0, t1⟩ := t8
    have hb : Below w3.heap.size w3 V := (by rw [<- hV]; exact (Below.refl _ _).alloc (Nat.le_refl _) _)
    have h81 : ¬ w3.heap.size = w.heap.size := by omega
    have h82 : ¬ w3.heap.size = w.heap.size + 1 := by omega
    clear hV
    replace HK := hid (HK.out.below hb); replace HB0 := hid (HB0.out.trans (hb.mono HB0.out.size)); clear a0 a1 a2 a3 a4 a5 p0 p1 p2 p3 p4 p5 d0 d1 e0 e1 hlt hlt0 hb; obtain ⟨a0, a1, a2, a3, a4, a5, p0, p1, p2, p3, p4, p5, d0, d1, e0, e1, hlt⟩ := HK.out; have hlt0 := Nat.lt_of_succ_lt hlt
    go_region
    all_goals (go_wp2_with fail)
    all_goals exact tokr_done_d (V := V) rfl HK.out HB0.out rfl rfl (by rw [HI.out]; show _ = _; rw [show (((i + 1 + p : Nat) : Nat) : Int) = (i : Int) + 1 + (p : Int) by omega])
theorem refText10_l (l : List UInt8) (i : Nat) (w : World) (hi : i < l.length) (hl : l.length <= 1048576) (hq : l[i] = 34 \/ l[i] = 39) :
  Calls Tryz.prog 115 #[.string (B l), .int .i64 (i : Int)] w fun e w' => TokRef e (quoteG l i) /\ Below w.heap.size w w' := by
 cases h : threeB l l[i] i with
 | true => exact refText_3 l i w hi hl hq h
 | false => exact refText_1 l i w hi hl hq h
end Go.Proofs.YtdhmpakhdhdebaaGreatDoor
