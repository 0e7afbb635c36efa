/-
  tesseralaw10: sameTokens: a contract. By an AI agent.
-/
import Derived.Test.YtdhmpakhdhdebaaGreatDoorZLexW21
import Derived.Test.YtdhmpakhdhdebaaGreatDoorZLexL0
namespace Go.Proofs.YtdhmpakhdhdebaaGreatDoor
open Go.RowKit
set_option maxRecDepth 100000
theorem toks_get (l : List TokL) : ∀ (k : Nat) (hk : k < l.length) (j : Nat) (u : Value), (tokC l[k])[j]? = some u -> (toksC l)[6 * k + j]? = some u := by
 induction l with
 | nil => intro k hk; simp at hk
 | cons t l ih =>
   intro k hk j u hu
   have e : toksC (t :: l) = tokC t ++ toksC l := by simp [toksC]
   have h6 : (tokC t).length = 6 := rfl
   have hj : j < 6 := by
     have := (List.getElem?_eq_some_iff.1 hu).1
     simpa [tokC] using this
   rw [e]
   cases k with
   | zero => rw [List.getElem?_append_left (by omega)]; simpa using hu
   | succ k =>
     rw [List.getElem?_append_right (by omega), h6, show 6 * (k + 1) + j - 6 = 6 * k + j by omega]
     exact ih k (by simpa using hk) j u (by simpa using hu)
theorem tok_at6 {w : World} {g o : Nat} {l : List TokL} (h : At w (some ⟨g, o, none⟩) (toksC l)) {k : Nat} (hk : k < l.length) :
   w.cell? ⟨g, o + k * 6, none⟩ = some (.int .i64 l[k].kind) /\ w.cell? ⟨g, o + k * 6 + 1, none⟩ = some (.string (B l[k].text)) /\ w.cell? ⟨g, o + k * 6 + 2, none⟩ = some (.string (B l[k].loc)) /\ w.cell? ⟨g, o + k * 6 + 3, none⟩ = some (.string (B l[k].typ)) /\ w.cell? ⟨g, o + k * 6 + 4, none⟩ = some (.int .i64 l[k].at_) /\ w.cell? ⟨g, o + k * 6 + 5, none⟩ = some (.int .i64 l[k].fin) := by
 have key : ∀ (j : Nat) (u : Value), (tokC l[k])[j]? = some u -> w.cell? ⟨g, o + k * 6 + j, none⟩ = some u := by
   intro j u hu
   have h1 := toks_get l k hk j u hu
   obtain ⟨hj, h2⟩ := List.getElem?_eq_some_iff.1 h1
   obtain ⟨g', o', e, h3⟩ := h (6 * k + j) hj
   cases e
   rw [show o + k * 6 + j = o + (6 * k + j) by omega, h3, h2]
 exact ⟨key 0 _ rfl, key 1 _ rfl, key 2 _ rfl, key 3 _ rfl, key 4 _ rfl, key 5 _ rfl⟩
set_option maxHeartbeats 3200000 in
theorem sameTokens_l (l : List TokL) (va vb : Value) (w : World) (ha : TView w va l) (hb : TView w vb l) (hl : l.length <= 4194304) :
   Calls Tryz.prog 21 #[va, vb] w fun e w' => e = .returned (.bool true) /\ ∃ n, w' = w.drewN n := by
 obtain ⟨a, ca, rfl, ha1, ha2⟩ := ha
 obtain ⟨b, cb, rfl, hb1, hb2⟩ := hb
 have HA := Lib.hid ha2
 have HB := Lib.hid hb2
 clear ha2 hb2
 go_enter Tryz.func21, Tryz.ntmps21
 go_wp2_with fail
 go_loopw [5] (fun s wr => ∃ k q : Nat, s = .int .i64 k /\ k <= l.length /\ wr = w.drewN q) (fun s _ => l.length - (intOf s).toNat)
 case atStart => exact ⟨0, 0, rfl, Nat.zero_le _, rfl⟩
 case round =>
   obtain ⟨k, q, rfl, hk, rfl⟩ := hrel
   by_cases hlt : k < l.length
   · have c1 : decide ((k : Int) < (l.length : Int)) = true := decide_eq_true (by omega)
     have c2 : decide (k < l.length) = true := decide_eq_true hlt
     have i0 : 0 <= (k : Int) := by omega
     have i1 : (k : Int) < (l.length : Int) := by omega
     have i2 : k < ca := by omega
     have i3 : k < cb := by omega
     obtain ⟨g, o, rfl⟩ := HA.out.place (by rw [toksC_len]; omega)
     obtain ⟨f, p, rfl⟩ := HB.out.place (by rw [toksC_len]; omega)
     obtain ⟨a0, a1, a2, a3, a4, a5⟩ := tok_at6 HA.out hlt
     obtain ⟨b0, b1, b2, b3, b4, b5⟩ := tok_at6 HB.out hlt
     generalize l[k] = t at a0 a1 a2 a3 a4 a5 b0 b1 b2 b3 b4 b5
     go_wp2_with fail
     go_quiet (fail)
     go_wp2_with fail
     go_roundw
     case rel => exact ⟨k + 1, q + nq, by go_num, by omega, rfl⟩
     case measure => simp [intOf]; omega
   · have c1 : decide ((k : Int) < (l.length : Int)) = false := decide_eq_false (by omega)
     have c2 : decide (k < l.length) = false := decide_eq_false hlt
     go_wp2_with fail
     go_ret
     exact ⟨rfl, q, rfl⟩
theorem two_new (w : World) (A C : List Value) (T T' : TypeId) : RowAt ((w.alloc (.cells A.toArray T)).alloc (.cells C.toArray T')) w.heap.size A /\ RowAt ((w.alloc (.cells A.toArray T)).alloc (.cells C.toArray T')) (w.heap.size + 1) C := by
 have h0 := heap_alloc_new w (.cells A.toArray T)
 have h1 := (heap_alloc_old (w.alloc (.cells A.toArray T)) (.cells C.toArray T') (r := w.heap.size) (by simp)).trans h0
 have h2 := heap_alloc_new (w.alloc (.cells A.toArray T)) (.cells C.toArray T')
 rw [show (w.alloc (.cells A.toArray T)).heap.size = w.heap.size + 1 by simp] at h2
 exact ⟨rowAt_of_heap h1, rowAt_of_heap h2⟩
theorem works_all (w : World) (hT : TabAt w) (hM : MaxAt w) :
   Calls Tryz.prog 18 #[.string { data := #[60, 97, 62, 32, 97, 32, 98, 58, 99, 46, 100, 44, 32, 49, 46, 53, 46] }] w fun e w' => (∃ g cap, e = .returned (.tuple #[.slice (some ⟨g, 0, none⟩) 6 cap, .nilIface]) /\ 6 <= cap /\ w'.cell? ⟨g, 0, none⟩ = some (.int .i64 1) /\ w'.cell? ⟨g, 1, none⟩ = some (.string { data := #[97] }) /\ w'.cell? ⟨g, 6, none⟩ = some (.int .i64 7) /\ w'.cell? ⟨g, 7, none⟩ = some (.string { data := #[97] }) /\ w'.cell? ⟨g, 12, none⟩ = some (.int .i64 2) /\ w'.cell? ⟨g, 13, none⟩ = some (.string { data := #[98] }) /\ w'.cell? ⟨g, 18, none⟩ = some (.int .i64 8) /\ w'.cell? ⟨g, 19, none⟩ = some (.string { data := #[44] }) /\ w'.cell? ⟨g, 24, none⟩ = some (.int .i64 6) /\ w'.cell? ⟨g, 25, none⟩ = some (.string { data := #[49, 46, 53] }) /\ w'.cell? ⟨g, 30, none⟩ = some (.int .i64 8) /\ w'.cell? ⟨g, 31, none⟩ = some (.string { data := #[46] }) /\ w'.cell? ⟨g, 14, none⟩ = some (.string { data := #[99, 46, 100] }) /\ w'.cell? ⟨g, 27, none⟩ = some (.string { data := #[104, 116, 116, 112, 58, 47, 47, 119, 119, 119, 46, 119, 51, 46, 111, 114, 103, 47, 50, 48, 48, 49, 47, 88, 77, 76, 83, 99, 104, 101, 109, 97, 35, 100, 101, 99, 105, 109, 97, 108] }) /\ w'.cell? ⟨g, 35, none⟩ = some (.int .i64 17)) /\ Below w.heap.size w w' := by
 have h := lexAll_l worksW w (by decide) hT hM
 have hw := works_toks
 rw [show headL worksW = worksW from if_pos hw.1, show lessB worksW = false from by unfold lessB; rw [hw.1]; rfl, hw.2] at h
 refine h.mono ?_
 rintro e w' ⟨hp, hb⟩
 refine ⟨?_, hb⟩
 rcases hp with ⟨_, v, rfl, ho⟩ | ⟨q, ev, h1, _⟩
 · obtain ⟨g, cap, rfl⟩ := ownsRow_succ (k := 5) ho
   obtain ⟨a, c, e, hc, hat⟩ := TOwn.view ho
   cases e
   have t0 := tok_at6 hat (k := 0) (by simp)
   have t1 := tok_at6 hat (k := 1) (by simp)
   have t2 := tok_at6 hat (k := 2) (by simp)
   have t3 := tok_at6 hat (k := 3) (by simp)
   have t4 := tok_at6 hat (k := 4) (by simp)
   have t5 := tok_at6 hat (k := 5) (by simp)
   exact ⟨g, cap, rfl, hc, t0.1, t0.2.1, t1.1, t1.2.1, t2.1, t2.2.1, t3.1, t3.2.1, t4.1, t4.2.1, t5.1, t5.2.1, t2.2.2.1, t4.2.2.2.1, t5.2.2.2.2.2⟩
 · cases h1
set_option maxHeartbeats 6400000 in
theorem works_l (w : World) (hT : TabAt w) (hM : MaxAt w) :
   Calls Tryz.prog 17 #[] w fun e w' => e = .returned (.bool true) /\ Below w.heap.size w w' := by
 have AL := Lib.hid (works_all w hT hM)
 clear hT hM
 go_enter Tryz.func17, Tryz.ntmps17
 go_wp2_with fail
 refine AL.out.mono ?_
 clear AL
 rintro e w1 ⟨⟨g, cap, rfl, hcap, e0, e1, e6, e7, e12, e13, e18, e19, e24, e25, e30, e31, e14, e27, e35⟩, hb⟩
 obtain ⟨W2, hW2⟩ : ∃ W2, (w1.alloc (.cells #[.int .i64 1, .int .i64 7, .int .i64 2, .int .i64 8, .int .i64 6, .int .i64 8] 97)).alloc (.cells #[.string { data := #[97] }, .string { data := #[97] }, .string { data := #[98] }, .string { data := #[44] }, .string { data := #[49, 46, 53] }, .string { data := #[46] }] 98) = W2 := ⟨_, rfl⟩
 have hB2 : Below w1.heap.size w1 W2 := by rw [<- hW2]; exact ((Below.refl _ _).alloc (Nat.le_refl _) _).alloc (by simp) _
 have HB : Hid (Below w.heap.size w W2) := Lib.hid (hb.trans (hB2.mono hb.size))
 have hg : g < w1.heap.size := World.block_lt_of_cell? _ _ e0
 have hc : ∀ j v, w1.cell? ⟨g, j, none⟩ = some v -> W2.cell? ⟨g, j, none⟩ = some v := fun j v h => (hB2.cell (p := ⟨g, j, none⟩) hg).trans h
 obtain ⟨RK, RT⟩ : RowAt W2 w1.heap.size [.int .i64 1, .int .i64 7, .int .i64 2, .int .i64 8, .int .i64 6, .int .i64 8] /\ RowAt W2 (w1.heap.size + 1) [.string { data := #[97] }, .string { data := #[97] }, .string { data := #[98] }, .string { data := #[44] }, .string { data := #[49, 46, 53] }, .string { data := #[46] }] := by rw [<- hW2]; exact two_new w1 _ _ _ _
 obtain ⟨⟨a0, a1, a2, a3, a4, a5⟩, p0, p1, p2, p3, p4, p5⟩ := row6 RK
 obtain ⟨⟨b0, b1, b2, b3, b4, b5⟩, q0, q1, q2, q3, q4, q5⟩ := row6 RT
 have lb := RT.inside
 replace e0 := hc _ _ e0
 replace e1 := hc _ _ e1
 replace e6 := hc _ _ e6
 replace e7 := hc _ _ e7
 replace e12 := hc _ _ e12
 replace e13 := hc _ _ e13
 replace e18 := hc _ _ e18
 replace e19 := hc _ _ e19
 replace e24 := hc _ _ e24
 replace e25 := hc _ _ e25
 replace e30 := hc _ _ e30
 replace e31 := hc _ _ e31
 replace e14 := hc _ _ e14
 replace e27 := hc _ _ e27
 replace e35 := hc _ _ e35
 clear hc hB2 hb RK RT
 go_wp2_with fail
 go_loopw [5] (fun s wr => ∃ k q : Nat, s = .int .i64 k /\ k <= 6 /\ wr = W2.drewN q) (fun s _ => 6 - (intOf s).toNat)
 case atStart => exact ⟨0, 0, rfl, Nat.zero_le _, rfl⟩
 case round =>
   obtain ⟨k, q, rfl, hk, rfl⟩ := hrel
   have hk6 : k = 0 \/ k = 1 \/ k = 2 \/ k = 3 \/ k = 4 \/ k = 5 \/ k = 6 := by omega
   rcases hk6 with rfl | rfl | rfl | rfl | rfl | rfl | rfl
   · have i2 : 0 < cap := by omega
     go_wp2_with fail
     go_quiet (fail)
     go_wp2_with fail
     go_roundw
     case rel => exact ⟨1, q + nq, by go_num, by omega, rfl⟩
     case measure => simp [intOf]
   · have i2 : 1 < cap := by omega
     go_wp2_with fail
     go_quiet (fail)
     go_wp2_with fail
     go_roundw
     case rel => exact ⟨2, q + nq, by go_num, by omega, rfl⟩
     case measure => simp [intOf]
   · have i2 : 2 < cap := by omega
     go_wp2_with fail
     go_quiet (fail)
     go_wp2_with fail
     go_roundw
     case rel => exact ⟨3, q + nq, by go_num, by omega, rfl⟩
     case measure => simp [intOf]
   · have i2 : 3 < cap := by omega
     go_wp2_with fail
     go_quiet (fail)
     go_wp2_with fail
     go_roundw
     case rel => exact ⟨4, q + nq, by go_num, by omega, rfl⟩
     case measure => simp [intOf]
   · have i2 : 4 < cap := by omega
     go_wp2_with fail
     go_quiet (fail)
     go_wp2_with fail
     go_roundw
     case rel => exact ⟨5, q + nq, by go_num, by omega, rfl⟩
     case measure => simp [intOf]
   · have i2 : 5 < cap := by omega
     go_wp2_with fail
     go_quiet (fail)
     go_wp2_with fail
     go_roundw
     case rel => exact ⟨6, q + nq, by go_num, by omega, rfl⟩
     case measure => simp [intOf]
   · have i2 : 2 < cap := by omega
     have i4 : 4 < cap := by omega
     have i5 : 5 < cap := by omega
     go_wp2_with fail
     go_ret
     exact ⟨rfl, below_drewN_h HB.out _⟩
end Go.Proofs.YtdhmpakhdhdebaaGreatDoor
