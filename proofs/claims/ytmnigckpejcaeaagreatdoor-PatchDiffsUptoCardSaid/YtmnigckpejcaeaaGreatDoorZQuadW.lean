/-
  term.stands, term.CheckQuad: contracts. By an AI agent.
-/
import Derived.Test.YtmnigckpejcaeaaGreatDoorZCmp
import Derived.Test.YtmnigckpejcaeaaGreatDoorZTermC
import Derived.Test.YtmnigckpejcaeaaGreatDoorZTermD
namespace Go.Proofs.YtmnigckpejcaeaaGreatDoor
open Go.RowKit
set_option maxRecDepth 100000
def standB (i : Nat) (t : TermL) : Bool :=
 if i = 0 then t.kind == 1 || t.kind == 2 else if i = 1 then t.kind == 1 else if i = 2 then t.kind == 1 || t.kind == 2 || t.kind == 3 else t.kind == 1 || t.kind == 2 || decide (t = noTerm)
def placeN (i : Nat) (t : TermL) (rest : Int) : Int := if standB i t = false then 70 else if i = 3 /\ t.kind = 0 then 0 else if termN t ≠ 0 then termN t else rest
theorem quadN_places (q : QuadL) : quadN q = placeN 0 q.s (placeN 1 q.p (placeN 2 q.o (placeN 3 q.g 0))) := by
 have e3 : placeN 3 q.g 0 = if q.g = noTerm then 0 else if ¬ (q.g.kind = 1 \/ q.g.kind = 2) then 70 else termN q.g := by
   unfold placeN standB
   by_cases h : q.g = noTerm
   · rw [if_pos h, h]; rfl
   · rw [if_neg h]
     by_cases h1 : q.g.kind = 1
     · simp [h1]; exact Eq.symm
     · by_cases h2 : q.g.kind = 2
       · simp [h2]; exact Eq.symm
       · simp [h, h1, h2]
 rw [e3]
 unfold quadN placeN standB
 by_cases s1 : q.s.kind = 1 <;> by_cases s2 : q.s.kind = 2 <;> by_cases p1 : q.p.kind = 1 <;> by_cases o1 : q.o.kind = 1 <;> by_cases o2 : q.o.kind = 2 <;> by_cases o3 : q.o.kind = 3 <;> simp [s1, s2, p1, o1, o2, o3]
theorem keq {k n : Int} (h : k = n) : (k == n) = true := beq_iff_eq.2 h
theorem kne {k n : Int} (h : k ≠ n) : (k == n) = false := beq_eq_false_iff_ne.2 h
set_option maxHeartbeats 1000000 in
theorem stands0_l (t : TermL) (w : World) : Calls Tryz.prog 70 #[.int .i64 0, .agg #[.int .i64 t.kind, .string (B t.text), .string (B t.type), .string (B t.lang)]] w fun e w' => e = .returned (.bool (standB 0 t)) /\ Below w.heap.size w w' := by
 obtain ⟨k, tx, ty, la⟩ := t
 have BA : Hid (Below w.heap.size w (w.alloc (.cells #[.int .i64 k, .string (B tx), .string (B ty), .string (B la)] 54))) := Lib.hid ((Below.refl _ _).alloc (Nat.le_refl _) _)
 simp only
 by_cases e1 : k = 1
 · have q1 := keq e1
   have HE : Hid (standB 0 ⟨k, tx, ty, la⟩ = true) := Lib.hid (by subst e1; simp [standB])
   clear e1
   go_enter Tryz.func70, Tryz.ntmps70
   go_wp2_with fail
   go_ret
   exact ⟨ret_bool HE.out.symm, BA.out⟩
 have q1 := kne e1
 by_cases e2 : k = 2
 · have q2 := keq e2
   have HE : Hid (standB 0 ⟨k, tx, ty, la⟩ = true) := Lib.hid (by subst e2; simp [standB])
   clear e1 e2
   go_enter Tryz.func70, Tryz.ntmps70
   go_wp2_with fail
   go_ret
   exact ⟨ret_bool HE.out.symm, BA.out⟩
 have q2 := kne e2
 have HE : Hid (standB 0 ⟨k, tx, ty, la⟩ = false) := Lib.hid (by simp [standB, e1, e2])
 clear e1 e2
 go_enter Tryz.func70, Tryz.ntmps70
 go_wp2_with fail
 go_ret
 exact ⟨ret_bool HE.out.symm, BA.out⟩
set_option maxHeartbeats 1000000 in
theorem stands1_l (t : TermL) (w : World) : Calls Tryz.prog 70 #[.int .i64 1, .agg #[.int .i64 t.kind, .string (B t.text), .string (B t.type), .string (B t.lang)]] w fun e w' => e = .returned (.bool (standB 1 t)) /\ Below w.heap.size w w' := by
 obtain ⟨k, tx, ty, la⟩ := t
 have BA : Hid (Below w.heap.size w (w.alloc (.cells #[.int .i64 k, .string (B tx), .string (B ty), .string (B la)] 54))) := Lib.hid ((Below.refl _ _).alloc (Nat.le_refl _) _)
 simp only
 by_cases e1 : k = 1
 · have q1 := keq e1
   have HE : Hid (standB 1 ⟨k, tx, ty, la⟩ = true) := Lib.hid (by subst e1; simp [standB])
   clear e1
   go_enter Tryz.func70, Tryz.ntmps70
   go_wp2_with fail
   go_ret
   exact ⟨ret_bool HE.out.symm, BA.out⟩
 have q1 := kne e1
 have HE : Hid (standB 1 ⟨k, tx, ty, la⟩ = false) := Lib.hid (by simp [standB, e1])
 clear e1
 go_enter Tryz.func70, Tryz.ntmps70
 go_wp2_with fail
 go_ret
 exact ⟨ret_bool HE.out.symm, BA.out⟩
set_option maxHeartbeats 1000000 in
theorem stands2_l (t : TermL) (w : World) : Calls Tryz.prog 70 #[.int .i64 2, .agg #[.int .i64 t.kind, .string (B t.text), .string (B t.type), .string (B t.lang)]] w fun e w' => e = .returned (.bool (standB 2 t)) /\ Below w.heap.size w w' := by
 obtain ⟨k, tx, ty, la⟩ := t
 have BA : Hid (Below w.heap.size w (w.alloc (.cells #[.int .i64 k, .string (B tx), .string (B ty), .string (B la)] 54))) := Lib.hid ((Below.refl _ _).alloc (Nat.le_refl _) _)
 simp only
 by_cases e1 : k = 1
 · have q1 := keq e1
   have HE : Hid (standB 2 ⟨k, tx, ty, la⟩ = true) := Lib.hid (by subst e1; simp [standB])
   clear e1
   go_enter Tryz.func70, Tryz.ntmps70
   go_wp2_with fail
   go_ret
   exact ⟨ret_bool HE.out.symm, BA.out⟩
 have q1 := kne e1
 by_cases e2 : k = 2
 · have q2 := keq e2
   have HE : Hid (standB 2 ⟨k, tx, ty, la⟩ = true) := Lib.hid (by subst e2; simp [standB])
   clear e1 e2
   go_enter Tryz.func70, Tryz.ntmps70
   go_wp2_with fail
   go_ret
   exact ⟨ret_bool HE.out.symm, BA.out⟩
 have q2 := kne e2
 by_cases e3 : k = 3
 · have q3 := keq e3
   have HE : Hid (standB 2 ⟨k, tx, ty, la⟩ = true) := Lib.hid (by subst e3; simp [standB])
   clear e1 e2 e3
   go_enter Tryz.func70, Tryz.ntmps70
   go_wp2_with fail
   go_ret
   exact ⟨ret_bool HE.out.symm, BA.out⟩
 have q3 := kne e3
 have HE : Hid (standB 2 ⟨k, tx, ty, la⟩ = false) := Lib.hid (by simp [standB, e1, e2, e3])
 clear e1 e2 e3
 go_enter Tryz.func70, Tryz.ntmps70
 go_wp2_with fail
 go_ret
 exact ⟨ret_bool HE.out.symm, BA.out⟩
set_option maxHeartbeats 1000000 in
theorem stands3_l (t : TermL) (w : World) : Calls Tryz.prog 70 #[.int .i64 3, .agg #[.int .i64 t.kind, .string (B t.text), .string (B t.type), .string (B t.lang)]] w fun e w' => e = .returned (.bool (standB 3 t)) /\ Below w.heap.size w w' := by
 obtain ⟨k, tx, ty, la⟩ := t
 have BA : Hid (Below w.heap.size w (w.alloc (.cells #[.int .i64 k, .string (B tx), .string (B ty), .string (B la)] 54))) := Lib.hid ((Below.refl _ _).alloc (Nat.le_refl _) _)
 simp only
 by_cases e1 : k = 1
 · have q1 := keq e1
   have HE : Hid (standB 3 ⟨k, tx, ty, la⟩ = true) := Lib.hid (by subst e1; simp [standB])
   clear e1
   go_enter Tryz.func70, Tryz.ntmps70
   go_wp2_with fail
   go_ret
   exact ⟨ret_bool HE.out.symm, BA.out⟩
 have q1 := kne e1
 by_cases e2 : k = 2
 · have q2 := keq e2
   have HE : Hid (standB 3 ⟨k, tx, ty, la⟩ = true) := Lib.hid (by subst e2; simp [standB])
   clear e1 e2
   go_enter Tryz.func70, Tryz.ntmps70
   go_wp2_with fail
   go_ret
   exact ⟨ret_bool HE.out.symm, BA.out⟩
 have q2 := kne e2
 have HE : Hid (standB 3 ⟨k, tx, ty, la⟩ = (k == 0 && tx.isEmpty && ty.isEmpty && la.isEmpty)) := Lib.hid (by
   rw [Bool.eq_iff_iff]
   simp [standB, e1, e2, noTerm, List.isEmpty_iff, and_assoc])
 clear e1 e2
 rcases Bool.eq_false_or_eq_true (k == 0) with z0 | z0 <;> rcases Bool.eq_false_or_eq_true tx.isEmpty with z1 | z1 <;> rcases Bool.eq_false_or_eq_true ty.isEmpty with z2 | z2 <;> rcases Bool.eq_false_or_eq_true la.isEmpty with z3 | z3
 all_goals
   rw [z0, z1, z2, z3] at HE
   go_enter Tryz.func70, Tryz.ntmps70
   go_wp2_with fail
   go_ret
   exact ⟨ret_bool HE.out.symm, BA.out⟩
theorem check_c (t : TermL) (w : World) (hT : TabAt w) (hM : MaxAt w) (h1 : t.text.length <= 1048576) (h2 : t.type.length <= 1048576) (h3 : t.lang.length <= 1048576) :
   Calls Tryz.prog 71 #[.agg #[.int .i64 t.kind, .string (B t.text), .string (B t.type), .string (B t.lang)]] w fun e w' => e = .returned (.int .i64 (termN t)) /\ Below w.heap.size w w' := check_l t w hT hM h1 h2 h3
def Short (q : QuadL) : Prop := ∀ t, (t = q.s \/ t = q.p \/ t = q.o \/ t = q.g) -> t.text.length <= 1048576 /\ t.type.length <= 1048576 /\ t.lang.length <= 1048576
set_option maxHeartbeats 4000000 in
theorem checkQuad_l (q : QuadL) (w : World) (hT : TabAt w) (hM : MaxAt w) (hS : Short q) :
   Calls Tryz.prog 44 #[.agg #[.int .i64 q.s.kind, .string (B q.s.text), .string (B q.s.type), .string (B q.s.lang), .int .i64 q.p.kind, .string (B q.p.text), .string (B q.p.type), .string (B q.p.lang), .int .i64 q.o.kind, .string (B q.o.text), .string (B q.o.type), .string (B q.o.lang), .int .i64 q.g.kind, .string (B q.g.text), .string (B q.g.type), .string (B q.g.lang)]] w fun e w' => e = .returned (.int .i64 (quadN q)) /\ Below w.heap.size w w' := by
 have QN : Hid (quadN q = placeN 0 q.s (placeN 1 q.p (placeN 2 q.o (placeN 3 q.g 0)))) := Lib.hid (quadN_places q)
 have CK := Lib.hid (fun (t : TermL) (ht : t = q.s \/ t = q.p \/ t = q.o \/ t = q.g) (u : World) (h : Below w.heap.size w u) => check_c t u (hT.below h) (hM.below h) (hS t ht).1 (hS t ht).2.1 (hS t ht).2.2)
 have BX0 := Lib.hid (fun (t : TermL) (v w' : World) (h : Below (v.alloc (.cells #[.int .i64 t.kind, .string (B t.text), .string (B t.type), .string (B t.lang)] 54)).heap.size (v.alloc (.cells #[.int .i64 t.kind, .string (B t.text), .string (B t.type), .string (B t.lang)] 54)) w') => BoxT.mk0.later h)
 have BA : Hid (Below w.heap.size w (w.alloc (.cells #[.int .i64 q.s.kind, .string (B q.s.text), .string (B q.s.type), .string (B q.s.lang), .int .i64 q.p.kind, .string (B q.p.text), .string (B q.p.type), .string (B q.p.lang), .int .i64 q.o.kind, .string (B q.o.text), .string (B q.o.type), .string (B q.o.lang), .int .i64 q.g.kind, .string (B q.g.text), .string (B q.g.type), .string (B q.g.lang)] 56))) := Lib.hid ((Below.refl _ _).alloc (Nat.le_refl _) _)
 clear hT hM hS
 have ix0 : ∀ v, (Instr.index 57 (.agg #[.int .i64 q.s.kind, .string (B q.s.text), .string (B q.s.type), .string (B q.s.lang), .int .i64 q.p.kind, .string (B q.p.text), .string (B q.p.type), .string (B q.p.lang), .int .i64 q.o.kind, .string (B q.o.text), .string (B q.o.type), .string (B q.o.lang), .int .i64 q.g.kind, .string (B q.g.text), .string (B q.g.type), .string (B q.g.lang)]) (.int .i64 0)).run Tryz.prog v = .ok (.agg #[.int .i64 q.s.kind, .string (B q.s.text), .string (B q.s.type), .string (B q.s.lang)]) v := fun _ => by kernel_rfl
 have ix1 : ∀ v, (Instr.index 57 (.agg #[.int .i64 q.s.kind, .string (B q.s.text), .string (B q.s.type), .string (B q.s.lang), .int .i64 q.p.kind, .string (B q.p.text), .string (B q.p.type), .string (B q.p.lang), .int .i64 q.o.kind, .string (B q.o.text), .string (B q.o.type), .string (B q.o.lang), .int .i64 q.g.kind, .string (B q.g.text), .string (B q.g.type), .string (B q.g.lang)]) (.int .i64 1)).run Tryz.prog v = .ok (.agg #[.int .i64 q.p.kind, .string (B q.p.text), .string (B q.p.type), .string (B q.p.lang)]) v := fun _ => by kernel_rfl
 have ix2 : ∀ v, (Instr.index 57 (.agg #[.int .i64 q.s.kind, .string (B q.s.text), .string (B q.s.type), .string (B q.s.lang), .int .i64 q.p.kind, .string (B q.p.text), .string (B q.p.type), .string (B q.p.lang), .int .i64 q.o.kind, .string (B q.o.text), .string (B q.o.type), .string (B q.o.lang), .int .i64 q.g.kind, .string (B q.g.text), .string (B q.g.type), .string (B q.g.lang)]) (.int .i64 2)).run Tryz.prog v = .ok (.agg #[.int .i64 q.o.kind, .string (B q.o.text), .string (B q.o.type), .string (B q.o.lang)]) v := fun _ => by kernel_rfl
 have ix3 : ∀ v, (Instr.index 57 (.agg #[.int .i64 q.s.kind, .string (B q.s.text), .string (B q.s.type), .string (B q.s.lang), .int .i64 q.p.kind, .string (B q.p.text), .string (B q.p.type), .string (B q.p.lang), .int .i64 q.o.kind, .string (B q.o.text), .string (B q.o.type), .string (B q.o.lang), .int .i64 q.g.kind, .string (B q.g.text), .string (B q.g.type), .string (B q.g.lang)]) (.int .i64 3)).run Tryz.prog v = .ok (.agg #[.int .i64 q.g.kind, .string (B q.g.text), .string (B q.g.type), .string (B q.g.lang)]) v := fun _ => by kernel_rfl
 go_enter Tryz.func44, Tryz.ntmps44
 go_wp2_with fail
 go_loopw [15] (fun i wr => Below w.heap.size w wr /\ (i = .int .i64 0 \/ (i = .int .i64 1 /\ Hid (quadN q = placeN 1 q.p (placeN 2 q.o (placeN 3 q.g 0)))) \/ (i = .int .i64 2 /\ Hid (quadN q = placeN 2 q.o (placeN 3 q.g 0))) \/ (i = .int .i64 3 /\ Hid (quadN q = placeN 3 q.g 0)) \/ (i = .int .i64 4 /\ Hid (quadN q = 0)))) (fun i _ => 4 - (intOf i).toNat)
 case atStart => exact ⟨BA.out, .inl rfl⟩
 case round =>
   obtain ⟨hbw, hrel⟩ := hrel
   have HB := Lib.hid hbw
   clear hbw BA
   rcases hrel with rfl | ⟨rfl, QI⟩ | ⟨rfl, QI⟩ | ⟨rfl, QI⟩ | ⟨rfl, QI⟩
   · have SX := Lib.hid (fun u => stands0_l q.s u)
     have QI := QN
     clear QN
     cases hs : standB 0 q.s with
     | false =>
       have ST := SX
       rw [hs] at ST
       clear SX
       have HE : Hid (quadN q = 70) := Lib.hid (by rw [QI.out]; unfold placeN; rw [if_pos hs])
       clear hs QI
       go_wp2_with (go_at_call 70; (with_reducible refine (ST.out _).mono ?_); rintro e w2 ⟨rfl, hb2⟩; have BX := BX0.out q.s _ _ hb2; obtain ⟨bb, c0, c1, c2, c3⟩ := BX; clear hb2)
       go_ret
       exact ⟨ret_i64 HE.out.symm, HB.out.trans (bb.mono HB.out.size)⟩
     | true =>
       have ST := SX
       rw [hs] at ST
       clear SX
       have QJ : Hid (quadN q = if 0 = 3 /\ q.s.kind = 0 then 0 else if termN q.s ≠ 0 then termN q.s else (placeN 1 q.p (placeN 2 q.o (placeN 3 q.g 0)))) := Lib.hid (by rw [QI.out]; unfold placeN; rw [if_neg (by rw [hs]; simp)])
       clear hs QI
       have QK : Hid (quadN q = if termN q.s ≠ 0 then termN q.s else (placeN 1 q.p (placeN 2 q.o (placeN 3 q.g 0)))) := Lib.hid (by rw [QJ.out, if_neg (fun h => by omega)])
       clear QJ
       obtain ⟨n, hn⟩ : ∃ n, termN q.s = n := ⟨_, rfl⟩
       have CK2 := CK.out q.s (.inl rfl)
       rw [hn] at CK2 QK
       have CK := Lib.hid CK2
       clear CK2 hn
       by_cases n0 : n = 0
       · have q9 : (n != 0) = false := by rw [n0]; rfl
         have HN : Hid (quadN q = (placeN 1 q.p (placeN 2 q.o (placeN 3 q.g 0)))) := Lib.hid (by rw [QK.out, if_neg (fun h => h n0)])
         clear n0 QK
         go_wp2_with (first | (go_at_call 70; (with_reducible refine (ST.out _).mono ?_); rintro e w2 ⟨rfl, hb2⟩; have BX := BX0.out q.s _ _ hb2; obtain ⟨bb, c0, c1, c2, c3⟩ := BX; clear hb2) | (go_at_call 71; (with_reducible refine (CK.out _ (HB.out.trans (bb.mono HB.out.size))).mono ?_); rintro e w3 ⟨rfl, hb3⟩; have HB3 := Lib.hid (HB.out.trans ((bb.trans (hb3.mono bb.size)).mono HB.out.size)); clear hb3))
         go_roundw
         case rel => exact ⟨HB3.out, .inr (.inl ⟨rfl, HN⟩)⟩
         case measure => simp [intOf]
       · have q9 : (n != 0) = true := by rw [bne, kne n0]; rfl
         have HE : Hid (quadN q = n) := Lib.hid (by rw [QK.out, if_pos n0])
         clear n0 QK
         go_wp2_with (first | (go_at_call 70; (with_reducible refine (ST.out _).mono ?_); rintro e w2 ⟨rfl, hb2⟩; have BX := BX0.out q.s _ _ hb2; obtain ⟨bb, c0, c1, c2, c3⟩ := BX; clear hb2) | (go_at_call 71; (with_reducible refine (CK.out _ (HB.out.trans (bb.mono HB.out.size))).mono ?_); rintro e w3 ⟨rfl, hb3⟩; have HB3 := Lib.hid (HB.out.trans ((bb.trans (hb3.mono bb.size)).mono HB.out.size)); clear hb3))
         go_ret
         exact ⟨ret_i64 HE.out.symm, HB3.out⟩
   · have SX := Lib.hid (fun u => stands1_l q.p u)
     clear QN
     cases hs : standB 1 q.p with
     | false =>
       have ST := SX
       rw [hs] at ST
       clear SX
       have HE : Hid (quadN q = 70) := Lib.hid (by rw [QI.out]; unfold placeN; rw [if_pos hs])
       clear hs QI
       go_wp2_with (go_at_call 70; (with_reducible refine (ST.out _).mono ?_); rintro e w2 ⟨rfl, hb2⟩; have BX := BX0.out q.p _ _ hb2; obtain ⟨bb, c0, c1, c2, c3⟩ := BX; clear hb2)
       go_ret
       exact ⟨ret_i64 HE.out.symm, HB.out.trans (bb.mono HB.out.size)⟩
     | true =>
       have ST := SX
       rw [hs] at ST
       clear SX
       have QJ : Hid (quadN q = if 1 = 3 /\ q.p.kind = 0 then 0 else if termN q.p ≠ 0 then termN q.p else (placeN 2 q.o (placeN 3 q.g 0))) := Lib.hid (by rw [QI.out]; unfold placeN; rw [if_neg (by rw [hs]; simp)])
       clear hs QI
       have QK : Hid (quadN q = if termN q.p ≠ 0 then termN q.p else (placeN 2 q.o (placeN 3 q.g 0))) := Lib.hid (by rw [QJ.out, if_neg (fun h => by omega)])
       clear QJ
       obtain ⟨n, hn⟩ : ∃ n, termN q.p = n := ⟨_, rfl⟩
       have CK2 := CK.out q.p (.inr (.inl rfl))
       rw [hn] at CK2 QK
       have CK := Lib.hid CK2
       clear CK2 hn
       by_cases n0 : n = 0
       · have q9 : (n != 0) = false := by rw [n0]; rfl
         have HN : Hid (quadN q = (placeN 2 q.o (placeN 3 q.g 0))) := Lib.hid (by rw [QK.out, if_neg (fun h => h n0)])
         clear n0 QK
         go_wp2_with (first | (go_at_call 70; (with_reducible refine (ST.out _).mono ?_); rintro e w2 ⟨rfl, hb2⟩; have BX := BX0.out q.p _ _ hb2; obtain ⟨bb, c0, c1, c2, c3⟩ := BX; clear hb2) | (go_at_call 71; (with_reducible refine (CK.out _ (HB.out.trans (bb.mono HB.out.size))).mono ?_); rintro e w3 ⟨rfl, hb3⟩; have HB3 := Lib.hid (HB.out.trans ((bb.trans (hb3.mono bb.size)).mono HB.out.size)); clear hb3))
         go_roundw
         case rel => exact ⟨HB3.out, .inr (.inr (.inl ⟨rfl, HN⟩))⟩
         case measure => simp [intOf]
       · have q9 : (n != 0) = true := by rw [bne, kne n0]; rfl
         have HE : Hid (quadN q = n) := Lib.hid (by rw [QK.out, if_pos n0])
         clear n0 QK
         go_wp2_with (first | (go_at_call 70; (with_reducible refine (ST.out _).mono ?_); rintro e w2 ⟨rfl, hb2⟩; have BX := BX0.out q.p _ _ hb2; obtain ⟨bb, c0, c1, c2, c3⟩ := BX; clear hb2) | (go_at_call 71; (with_reducible refine (CK.out _ (HB.out.trans (bb.mono HB.out.size))).mono ?_); rintro e w3 ⟨rfl, hb3⟩; have HB3 := Lib.hid (HB.out.trans ((bb.trans (hb3.mono bb.size)).mono HB.out.size)); clear hb3))
         go_ret
         exact ⟨ret_i64 HE.out.symm, HB3.out⟩
   · have SX := Lib.hid (fun u => stands2_l q.o u)
     clear QN
     cases hs : standB 2 q.o with
     | false =>
       have ST := SX
       rw [hs] at ST
       clear SX
       have HE : Hid (quadN q = 70) := Lib.hid (by rw [QI.out]; unfold placeN; rw [if_pos hs])
       clear hs QI
       go_wp2_with (go_at_call 70; (with_reducible refine (ST.out _).mono ?_); rintro e w2 ⟨rfl, hb2⟩; have BX := BX0.out q.o _ _ hb2; obtain ⟨bb, c0, c1, c2, c3⟩ := BX; clear hb2)
       go_ret
       exact ⟨ret_i64 HE.out.symm, HB.out.trans (bb.mono HB.out.size)⟩
     | true =>
       have ST := SX
       rw [hs] at ST
       clear SX
       have QJ : Hid (quadN q = if 2 = 3 /\ q.o.kind = 0 then 0 else if termN q.o ≠ 0 then termN q.o else (placeN 3 q.g 0)) := Lib.hid (by rw [QI.out]; unfold placeN; rw [if_neg (by rw [hs]; simp)])
       clear hs QI
       have QK : Hid (quadN q = if termN q.o ≠ 0 then termN q.o else (placeN 3 q.g 0)) := Lib.hid (by rw [QJ.out, if_neg (fun h => by omega)])
       clear QJ
       obtain ⟨n, hn⟩ : ∃ n, termN q.o = n := ⟨_, rfl⟩
       have CK2 := CK.out q.o (.inr (.inr (.inl rfl)))
       rw [hn] at CK2 QK
       have CK := Lib.hid CK2
       clear CK2 hn
       by_cases n0 : n = 0
       · have q9 : (n != 0) = false := by rw [n0]; rfl
         have HN : Hid (quadN q = (placeN 3 q.g 0)) := Lib.hid (by rw [QK.out, if_neg (fun h => h n0)])
         clear n0 QK
         go_wp2_with (first | (go_at_call 70; (with_reducible refine (ST.out _).mono ?_); rintro e w2 ⟨rfl, hb2⟩; have BX := BX0.out q.o _ _ hb2; obtain ⟨bb, c0, c1, c2, c3⟩ := BX; clear hb2) | (go_at_call 71; (with_reducible refine (CK.out _ (HB.out.trans (bb.mono HB.out.size))).mono ?_); rintro e w3 ⟨rfl, hb3⟩; have HB3 := Lib.hid (HB.out.trans ((bb.trans (hb3.mono bb.size)).mono HB.out.size)); clear hb3))
         go_roundw
         case rel => exact ⟨HB3.out, .inr (.inr (.inr (.inl ⟨rfl, HN⟩)))⟩
         case measure => simp [intOf]
       · have q9 : (n != 0) = true := by rw [bne, kne n0]; rfl
         have HE : Hid (quadN q = n) := Lib.hid (by rw [QK.out, if_pos n0])
         clear n0 QK
         go_wp2_with (first | (go_at_call 70; (with_reducible refine (ST.out _).mono ?_); rintro e w2 ⟨rfl, hb2⟩; have BX := BX0.out q.o _ _ hb2; obtain ⟨bb, c0, c1, c2, c3⟩ := BX; clear hb2) | (go_at_call 71; (with_reducible refine (CK.out _ (HB.out.trans (bb.mono HB.out.size))).mono ?_); rintro e w3 ⟨rfl, hb3⟩; have HB3 := Lib.hid (HB.out.trans ((bb.trans (hb3.mono bb.size)).mono HB.out.size)); clear hb3))
         go_ret
         exact ⟨ret_i64 HE.out.symm, HB3.out⟩
   · have SX := Lib.hid (fun u => stands3_l q.g u)
     clear QN
     cases hs : standB 3 q.g with
     | false =>
       have ST := SX
       rw [hs] at ST
       clear SX
       have HE : Hid (quadN q = 70) := Lib.hid (by rw [QI.out]; unfold placeN; rw [if_pos hs])
       clear hs QI
       go_wp2_with (go_at_call 70; (with_reducible refine (ST.out _).mono ?_); rintro e w2 ⟨rfl, hb2⟩; have BX := BX0.out q.g _ _ hb2; obtain ⟨bb, c0, c1, c2, c3⟩ := BX; clear hb2)
       go_ret
       exact ⟨ret_i64 HE.out.symm, HB.out.trans (bb.mono HB.out.size)⟩
     | true =>
       have ST := SX
       rw [hs] at ST
       clear SX
       have QJ : Hid (quadN q = if 3 = 3 /\ q.g.kind = 0 then 0 else if termN q.g ≠ 0 then termN q.g else 0) := Lib.hid (by rw [QI.out]; unfold placeN; rw [if_neg (by rw [hs]; simp)])
       clear hs QI
       by_cases k0 : q.g.kind = 0
       · have q0 := keq k0
         have HE : Hid (quadN q = 0) := Lib.hid (by rw [QJ.out, if_pos ⟨rfl, k0⟩])
         clear k0 QJ
         go_wp2_with (go_at_call 70; (with_reducible refine (ST.out _).mono ?_); rintro e w2 ⟨rfl, hb2⟩; have BX := BX0.out q.g _ _ hb2; obtain ⟨bb, c0, c1, c2, c3⟩ := BX; clear hb2)
         go_ret
         exact ⟨ret_i64 HE.out.symm, HB.out.trans (bb.mono HB.out.size)⟩
       have q0 := kne k0
       have QK : Hid (quadN q = if termN q.g ≠ 0 then termN q.g else 0) := Lib.hid (by rw [QJ.out, if_neg (fun h => k0 h.2)])
       clear k0 QJ
       obtain ⟨n, hn⟩ : ∃ n, termN q.g = n := ⟨_, rfl⟩
       have CK2 := CK.out q.g (.inr (.inr (.inr rfl)))
       rw [hn] at CK2 QK
       have CK := Lib.hid CK2
       clear CK2 hn
       by_cases n0 : n = 0
       · have q9 : (n != 0) = false := by rw [n0]; rfl
         have HN : Hid (quadN q = 0) := Lib.hid (by rw [QK.out, if_neg (fun h => h n0)])
         clear n0 QK
         go_wp2_with (first | (go_at_call 70; (with_reducible refine (ST.out _).mono ?_); rintro e w2 ⟨rfl, hb2⟩; have BX := BX0.out q.g _ _ hb2; obtain ⟨bb, c0, c1, c2, c3⟩ := BX; clear hb2) | (go_at_call 71; (with_reducible refine (CK.out _ (HB.out.trans (bb.mono HB.out.size))).mono ?_); rintro e w3 ⟨rfl, hb3⟩; have HB3 := Lib.hid (HB.out.trans ((bb.trans (hb3.mono bb.size)).mono HB.out.size)); clear hb3))
         go_roundw
         case rel => exact ⟨HB3.out, .inr (.inr (.inr (.inr ⟨rfl, HN⟩)))⟩
         case measure => simp [intOf]
       · have q9 : (n != 0) = true := by rw [bne, kne n0]; rfl
         have HE : Hid (quadN q = n) := Lib.hid (by rw [QK.out, if_pos n0])
         clear n0 QK
         go_wp2_with (first | (go_at_call 70; (with_reducible refine (ST.out _).mono ?_); rintro e w2 ⟨rfl, hb2⟩; have BX := BX0.out q.g _ _ hb2; obtain ⟨bb, c0, c1, c2, c3⟩ := BX; clear hb2) | (go_at_call 71; (with_reducible refine (CK.out _ (HB.out.trans (bb.mono HB.out.size))).mono ?_); rintro e w3 ⟨rfl, hb3⟩; have HB3 := Lib.hid (HB.out.trans ((bb.trans (hb3.mono bb.size)).mono HB.out.size)); clear hb3))
         go_ret
         exact ⟨ret_i64 HE.out.symm, HB3.out⟩
   · clear CK BX0
     go_wp2_with fail
     go_ret
     exact ⟨ret_i64 QI.out.symm, HB.out⟩
end Go.Proofs.YtmnigckpejcaeaaGreatDoor
