/-
  Texts compared by '<' and '>': the plain words. No program in sight. By an AI agent.
-/
import Derived.Test.YtdegonmkikfghaaGreatDoorZLoadQ
namespace Go.Proofs.YtdegonmkikfghaaGreatDoor
open Lib (hid)
open Go.RowKit
set_option maxRecDepth 100000
theorem bytesLess_cmp : ∀ (a b : List UInt8), Op.bytesLess a b = decide (Lib.compareBytes a b < 0)
 | [], [] => rfl
 | [], _ :: _ => rfl
 | _ :: _, [] => rfl
 | x :: a, y :: b => by
  have ih := bytesLess_cmp a b
  rw [Op.bytesLess, Lib.compareBytes, ih]
  by_cases h1 : x < y
  ·simp [h1]
  ·by_cases h2 : y < x
   ·have h3 : x ≠ y := fun e => by rw [e] at h2; exact absurd h2 (by simp)
    simp [h1, h2, h3]
   ·have h3 : x = y := by
     have a1 : ¬ x.toNat < y.toNat := fun h => h1 (UInt8.lt_iff_toNat_lt.2 h)
     have a2 : ¬ y.toNat < x.toNat := fun h => h2 (UInt8.lt_iff_toNat_lt.2 h)
     exact UInt8.toNat_inj.1 (by omega)
    subst h3
    simp
theorem compareBytes_cases (a b : List UInt8) : Lib.compareBytes a b = -1 \/ Lib.compareBytes a b = 0 \/ Lib.compareBytes a b = 1 := by
 rw [compareBytes_ord]
 cases compare a b <;> simp [ordI]
theorem compareBytes_zero {a b : List UInt8} : Lib.compareBytes a b = 0 ↔ a = b := by
 rw [compareBytes_ord]
 constructor
 ·intro h
  cases hc : compare a b <;> rw [hc] at h
  ·exact absurd h (by decide)
  ·exact Std.LawfulEqOrd.eq_of_compare hc
  ·exact absurd h (by decide)
 ·rintro rfl
  simp [ordI]
theorem texts_cmp (a b : List UInt8) : Lib.compareBytes a b = if Op.bytesLess a b then -1 else if !(Op.bytesLess a b || a == b) then 1 else 0 := by
 rw [bytesLess_cmp]
 rcases compareBytes_cases a b with h | h | h
 ·rw [h]; simp
 ·have := compareBytes_zero.1 h
  subst this
  rw [h]; simp
 ·have hne : ¬ a = b := fun e => by rw [compareBytes_zero.2 e] at h; exact absurd h (by decide)
  rw [h]; simp [hne]
end Go.Proofs.YtdegonmkikfghaaGreatDoor
namespace Go.Proofs.YtdegonmkikfghaaGreatDoor
open Lib (hid)
open Go.RowKit
set_option maxRecDepth 100000
set_option maxHeartbeats 1000000 in
theorem refTexts_l (a b : List UInt8) (w : World) : Calls Tryz.prog 124 #[.string (B a), .string (B b)] w fun e w' => e = .returned (.int .i64 (Lib.compareBytes a b)) /\ w' = w := by
 have HE := hid (texts_cmp a b)
 cases h1 : Op.bytesLess a b with
 | true =>
  have HE2 : Hid (Lib.compareBytes a b = -1) := hid (by rw [HE.out, h1]; rfl)
  clear HE
  go_enter Tryz.func124, Tryz.ntmps124
  go_wp2_with fail
  go_ret
  exact ⟨ret_i64 HE2.out.symm, rfl⟩
 | false =>
  cases h2 : (a == b) with
  | true =>
   have HE2 : Hid (Lib.compareBytes a b = 0) := hid (by rw [HE.out, h1, h2]; rfl)
   clear HE
   go_enter Tryz.func124, Tryz.ntmps124
   go_wp2_with fail
   go_ret
   exact ⟨ret_i64 HE2.out.symm, rfl⟩
  | false =>
   have HE2 : Hid (Lib.compareBytes a b = 1) := hid (by rw [HE.out, h1, h2]; rfl)
   clear HE
   go_enter Tryz.func124, Tryz.ntmps124
   go_wp2_with fail
   go_ret
   exact ⟨ret_i64 HE2.out.symm, rfl⟩
theorem cmpT_kind {a b : TermL} (h : a.kind ≠ b.kind) : cmpT a b = if a.kind < b.kind then -1 else 1 := by
 unfold cmpT Lib.compareInt orI
 rcases Int.lt_trichotomy a.kind b.kind with h1 | h1 | h1
 ·rw [if_pos h1, if_pos h1]; rfl
 ·exact absurd h1 h
 ·rw [if_neg (by omega), if_pos h1, if_neg (by omega)]
theorem cmpT_same {a b : TermL} (h : a.kind = b.kind) : cmpT a b = orI (Lib.compareBytes a.text b.text) (orI (Lib.compareBytes a.type b.type) (Lib.compareBytes a.lang b.lang)) := by
 unfold cmpT
 rw [h, show Lib.compareInt b.kind b.kind = 0 by unfold Lib.compareInt; simp]
 rfl
set_option maxHeartbeats 4000000 in
theorem refCompare_l (a b : TermL) (w : World) : Calls Tryz.prog 85 #[.agg #[.int .i64 a.kind, .string (B a.text), .string (B a.type), .string (B a.lang)], .agg #[.int .i64 b.kind, .string (B b.text), .string (B b.type), .string (B b.lang)]] w fun e w' => e = .returned (.int .i64 (cmpT a b)) /\ Below w.heap.size w w' := by
 have HB0 : Hid (∀ o1 o2, Below w.heap.size w ((w.alloc o1).alloc o2)) := hid (fun o1 o2 => ((Below.refl _ _).alloc (Nat.le_refl _) _).alloc (by simp) _)
 by_cases hk : a.kind = b.kind
 ·have T1 := hid (refTexts_l a.text b.text)
  have T2 := hid (refTexts_l a.type b.type)
  have T3 := hid (refTexts_l a.lang b.lang)
  have HE := hid (cmpT_same hk)
  have q1 : (a.kind != b.kind) = false := by rw [hk]; simp
  clear hk
  obtain ⟨c1, h1⟩ : ∃ c, Lib.compareBytes a.text b.text = c := ⟨_, rfl⟩
  obtain ⟨c2, h2⟩ : ∃ c, Lib.compareBytes a.type b.type = c := ⟨_, rfl⟩
  obtain ⟨c3, h3⟩ : ∃ c, Lib.compareBytes a.lang b.lang = c := ⟨_, rfl⟩
  rw [h1] at T1 HE
  rw [h2] at T2 HE
  rw [h3] at T3 HE
  clear h1 h2 h3
  by_cases z1 : c1 = 0
  ·subst z1
   by_cases z2 : c2 = 0
   ·subst z2
    go_enter Tryz.func85, Tryz.ntmps85
    go_wp2_with (first | (go_at_call 124; (with_reducible refine (T1.out _).mono ?_); rintro e w1 ⟨rfl, rfl⟩; clear T1) | (go_at_call 124; (with_reducible refine (T2.out _).mono ?_); rintro e w1 ⟨rfl, rfl⟩; clear T2) | (go_at_call 124; (with_reducible refine (T3.out _).mono ?_); rintro e w1 ⟨rfl, rfl⟩; clear T3))
    go_ret
    exact ⟨ret_i64 (by rw [HE.out]; simp [orI]), HB0.out _ _⟩
   ·have q2 : (c2 == 0) = false := beq_eq_false_iff_ne.2 z2
    have HE2 : Hid (cmpT a b = c2) := hid (by rw [HE.out]; simp [orI, z2])
    clear z2 HE
    go_enter Tryz.func85, Tryz.ntmps85
    go_wp2_with (first | (go_at_call 124; (with_reducible refine (T1.out _).mono ?_); rintro e w1 ⟨rfl, rfl⟩; clear T1) | (go_at_call 124; (with_reducible refine (T2.out _).mono ?_); rintro e w1 ⟨rfl, rfl⟩; clear T2))
    go_ret
    exact ⟨ret_i64 HE2.out.symm, HB0.out _ _⟩
  ·have q2 : (c1 == 0) = false := beq_eq_false_iff_ne.2 z1
   have HE2 : Hid (cmpT a b = c1) := hid (by rw [HE.out]; simp [orI, z1])
   clear z1 HE
   go_enter Tryz.func85, Tryz.ntmps85
   go_wp2_with (go_at_call 124; (with_reducible refine (T1.out _).mono ?_); rintro e w1 ⟨rfl, rfl⟩; clear T1)
   go_ret
   exact ⟨ret_i64 HE2.out.symm, HB0.out _ _⟩
 ·have q1 : (a.kind != b.kind) = true := by rw [bne_iff_ne]; exact hk
  have HE := hid (cmpT_kind hk)
  clear hk
  by_cases h : a.kind < b.kind
  ·have HE2 : Hid (cmpT a b = -1) := hid (by rw [HE.out, if_pos h])
   have q2 : decide (a.kind < b.kind) = true := decide_eq_true h
   clear HE
   go_enter Tryz.func85, Tryz.ntmps85
   go_wp2_with fail
   go_ret
   exact ⟨ret_i64 HE2.out.symm, HB0.out _ _⟩
  ·have HE2 : Hid (cmpT a b = 1) := hid (by rw [HE.out, if_neg h])
   have q2 : decide (a.kind < b.kind) = false := decide_eq_false h
   clear HE h
   go_enter Tryz.func85, Tryz.ntmps85
   go_wp2_with fail
   go_ret
   exact ⟨ret_i64 HE2.out.symm, HB0.out _ _⟩
theorem held2r {w W w' : World} {A C : Array Value} {T : TypeId} (e : (w.alloc (.cells A T)).alloc (.cells C T) = W) (h : Below W.heap.size W w') :
  (∀ j x, A[j]? = some x -> w'.cell? ⟨w.heap.size, j, none⟩ = some x) /\ (∀ j x, C[j]? = some x -> w'.cell? ⟨w.heap.size + 1, j, none⟩ = some x) := by
 subst e
 refine ⟨fun j x hx => ?_, fun j x hx => ?_⟩
 ·rw [h.cell (p := ⟨w.heap.size, j, none⟩) (by simp; omega)]
  rw [show ((w.alloc (.cells A T)).alloc (.cells C T)).cell? ⟨w.heap.size, j, none⟩ = (w.alloc (.cells A T)).cell? ⟨w.heap.size, j, none⟩ from ((Below.refl _ _).alloc (Nat.le_refl _) _ : Below (w.alloc (.cells A T)).heap.size (w.alloc (.cells A T)) _).cell (p := ⟨w.heap.size, j, none⟩) (by simp), World.cell?_alloc_new]
  exact hx
 ·rw [h.cell (p := ⟨w.heap.size + 1, j, none⟩) (by simp)]
  have := World.cell?_alloc_new (w.alloc (.cells A T)) C T j
  rw [World.size_alloc] at this
  rw [this]
  exact hx
set_option maxHeartbeats 4000000 in
theorem refCompareQuads_l (a b : QuadL) (w : World) : Calls Tryz.prog 57 #[qv a, qv b] w fun e w' => e = .returned (.int .i64 (cmpQ a b)) /\ Below w.heap.size w w' := by
 have HE : Hid (cmpQ a b = orI (cmpT a.g b.g) (orI (cmpT a.s b.s) (orI (cmpT a.p b.p) (cmpT a.o b.o)))) := hid rfl
 obtain ⟨W, hW⟩ : ∃ W, (w.alloc (.cells #[.int .i64 a.s.kind, .string (B a.s.text), .string (B a.s.type), .string (B a.s.lang), .int .i64 a.p.kind, .string (B a.p.text), .string (B a.p.type), .string (B a.p.lang), .int .i64 a.o.kind, .string (B a.o.text), .string (B a.o.type), .string (B a.o.lang), .int .i64 a.g.kind, .string (B a.g.text), .string (B a.g.type), .string (B a.g.lang)] 36)).alloc (.cells #[.int .i64 b.s.kind, .string (B b.s.text), .string (B b.s.type), .string (B b.s.lang), .int .i64 b.p.kind, .string (B b.p.text), .string (B b.p.type), .string (B b.p.lang), .int .i64 b.o.kind, .string (B b.o.text), .string (B b.o.type), .string (B b.o.lang), .int .i64 b.g.kind, .string (B b.g.text), .string (B b.g.type), .string (B b.g.lang)] 36) = W := ⟨_, rfl⟩
 have SB : Hid (∀ w', Below W.heap.size W w' -> w'.cell? ⟨w.heap.size, 0, none⟩ = some (.int .i64 a.s.kind) /\ w'.cell? ⟨w.heap.size, 1, none⟩ = some (.string (B a.s.text)) /\ w'.cell? ⟨w.heap.size, 2, none⟩ = some (.string (B a.s.type)) /\ w'.cell? ⟨w.heap.size, 3, none⟩ = some (.string (B a.s.lang)) /\ w'.cell? ⟨w.heap.size, 4, none⟩ = some (.int .i64 a.p.kind) /\ w'.cell? ⟨w.heap.size, 5, none⟩ = some (.string (B a.p.text)) /\ w'.cell? ⟨w.heap.size, 6, none⟩ = some (.string (B a.p.type)) /\ w'.cell? ⟨w.heap.size, 7, none⟩ = some (.string (B a.p.lang)) /\ w'.cell? ⟨w.heap.size, 8, none⟩ = some (.int .i64 a.o.kind) /\ w'.cell? ⟨w.heap.size, 9, none⟩ = some (.string (B a.o.text)) /\ w'.cell? ⟨w.heap.size, 10, none⟩ = some (.string (B a.o.type)) /\ w'.cell? ⟨w.heap.size, 11, none⟩ = some (.string (B a.o.lang)) /\ w'.cell? ⟨w.heap.size, 12, none⟩ = some (.int .i64 a.g.kind) /\ w'.cell? ⟨w.heap.size, 13, none⟩ = some (.string (B a.g.text)) /\ w'.cell? ⟨w.heap.size, 14, none⟩ = some (.string (B a.g.type)) /\ w'.cell? ⟨w.heap.size, 15, none⟩ = some (.string (B a.g.lang)) /\ w'.cell? ⟨w.heap.size + 1, 0, none⟩ = some (.int .i64 b.s.kind) /\ w'.cell? ⟨w.heap.size + 1, 1, none⟩ = some (.string (B b.s.text)) /\ w'.cell? ⟨w.heap.size + 1, 2, none⟩ = some (.string (B b.s.type)) /\ w'.cell? ⟨w.heap.size + 1, 3, none⟩ = some (.string (B b.s.lang)) /\ w'.cell? ⟨w.heap.size + 1, 4, none⟩ = some (.int .i64 b.p.kind) /\ w'.cell? ⟨w.heap.size + 1, 5, none⟩ = some (.string (B b.p.text)) /\ w'.cell? ⟨w.heap.size + 1, 6, none⟩ = some (.string (B b.p.type)) /\ w'.cell? ⟨w.heap.size + 1, 7, none⟩ = some (.string (B b.p.lang)) /\ w'.cell? ⟨w.heap.size + 1, 8, none⟩ = some (.int .i64 b.o.kind) /\ w'.cell? ⟨w.heap.size + 1, 9, none⟩ = some (.string (B b.o.text)) /\ w'.cell? ⟨w.heap.size + 1, 10, none⟩ = some (.string (B b.o.type)) /\ w'.cell? ⟨w.heap.size + 1, 11, none⟩ = some (.string (B b.o.lang)) /\ w'.cell? ⟨w.heap.size + 1, 12, none⟩ = some (.int .i64 b.g.kind) /\ w'.cell? ⟨w.heap.size + 1, 13, none⟩ = some (.string (B b.g.text)) /\ w'.cell? ⟨w.heap.size + 1, 14, none⟩ = some (.string (B b.g.type)) /\ w'.cell? ⟨w.heap.size + 1, 15, none⟩ = some (.string (B b.g.lang))) := hid (fun w' h => by
  obtain ⟨h1, h2⟩ := held2r hW h
  exact ⟨h1 0 _ rfl, h1 1 _ rfl, h1 2 _ rfl, h1 3 _ rfl, h1 4 _ rfl, h1 5 _ rfl, h1 6 _ rfl, h1 7 _ rfl, h1 8 _ rfl, h1 9 _ rfl, h1 10 _ rfl, h1 11 _ rfl, h1 12 _ rfl, h1 13 _ rfl, h1 14 _ rfl, h1 15 _ rfl, h2 0 _ rfl, h2 1 _ rfl, h2 2 _ rfl, h2 3 _ rfl, h2 4 _ rfl, h2 5 _ rfl, h2 6 _ rfl, h2 7 _ rfl, h2 8 _ rfl, h2 9 _ rfl, h2 10 _ rfl, h2 11 _ rfl, h2 12 _ rfl, h2 13 _ rfl, h2 14 _ rfl, h2 15 _ rfl⟩)
 have HB7 : Hid (Below W.heap.size W W) := hid (Below.refl _ _)
 have HB0 : Hid (Below w.heap.size w W) := hid (by rw [<- hW]; exact ((Below.refl _ _).alloc (Nat.le_refl _) _).alloc (by simp) _)
 obtain ⟨d0, d1, d2, d3, d4, d5, d6, d7, d8, d9, d10, d11, d12, d13, d14, d15, d16, d17, d18, d19, d20, d21, d22, d23, d24, d25, d26, d27, d28, d29, d30, d31⟩ := SB.out _ HB7.out
 have C1 := hid (refCompare_l a.g b.g)
 have C2 := hid (refCompare_l a.s b.s)
 have C3 := hid (refCompare_l a.p b.p)
 have C4 := hid (refCompare_l a.o b.o)
 obtain ⟨c1, h1⟩ : ∃ c, cmpT a.g b.g = c := ⟨_, rfl⟩
 obtain ⟨c2, h2⟩ : ∃ c, cmpT a.s b.s = c := ⟨_, rfl⟩
 obtain ⟨c3, h3⟩ : ∃ c, cmpT a.p b.p = c := ⟨_, rfl⟩
 obtain ⟨c4, h4⟩ : ∃ c, cmpT a.o b.o = c := ⟨_, rfl⟩
 rw [h1] at C1 HE
 rw [h2] at C2 HE
 rw [h3] at C3 HE
 rw [h4] at C4 HE
 clear h1 h2 h3 h4
 by_cases z1 : c1 = 0
 ·subst z1
  by_cases z2 : c2 = 0
  ·subst z2
   by_cases z3 : c3 = 0
   ·subst z3
    have HE2 : Hid (cmpQ a b = c4) := hid (by rw [HE.out]; simp [orI])
    clear HE
    go_enter Tryz.func57, Tryz.ntmps57
    go_wp2_with (first | (go_at_call 85; (with_reducible refine (C1.out _).mono ?_); rintro e w5 ⟨rfl, hb7⟩; have HB8 := hid (HB7.out.trans (hb7.mono HB7.out.size)); clear HB7 hb7 C1 d0 d1 d2 d3 d4 d5 d6 d7 d8 d9 d10 d11 d12 d13 d14 d15 d16 d17 d18 d19 d20 d21 d22 d23 d24 d25 d26 d27 d28 d29 d30 d31; have HB7 := HB8; clear HB8; obtain ⟨d0, d1, d2, d3, d4, d5, d6, d7, d8, d9, d10, d11, d12, d13, d14, d15, d16, d17, d18, d19, d20, d21, d22, d23, d24, d25, d26, d27, d28, d29, d30, d31⟩ := SB.out _ HB7.out) | (go_at_call 85; (with_reducible refine (C2.out _).mono ?_); rintro e w6 ⟨rfl, hb7⟩; have HB8 := hid (HB7.out.trans (hb7.mono HB7.out.size)); clear HB7 hb7 C2 d0 d1 d2 d3 d4 d5 d6 d7 d8 d9 d10 d11 d12 d13 d14 d15 d16 d17 d18 d19 d20 d21 d22 d23 d24 d25 d26 d27 d28 d29 d30 d31; have HB7 := HB8; clear HB8; obtain ⟨d0, d1, d2, d3, d4, d5, d6, d7, d8, d9, d10, d11, d12, d13, d14, d15, d16, d17, d18, d19, d20, d21, d22, d23, d24, d25, d26, d27, d28, d29, d30, d31⟩ := SB.out _ HB7.out) | (go_at_call 85; (with_reducible refine (C3.out _).mono ?_); rintro e w7 ⟨rfl, hb7⟩; have HB8 := hid (HB7.out.trans (hb7.mono HB7.out.size)); clear HB7 hb7 C3 d0 d1 d2 d3 d4 d5 d6 d7 d8 d9 d10 d11 d12 d13 d14 d15 d16 d17 d18 d19 d20 d21 d22 d23 d24 d25 d26 d27 d28 d29 d30 d31; have HB7 := HB8; clear HB8; obtain ⟨d0, d1, d2, d3, d4, d5, d6, d7, d8, d9, d10, d11, d12, d13, d14, d15, d16, d17, d18, d19, d20, d21, d22, d23, d24, d25, d26, d27, d28, d29, d30, d31⟩ := SB.out _ HB7.out) | (go_at_call 85; (with_reducible refine (C4.out _).mono ?_); rintro e w8 ⟨rfl, hb7⟩; have HB8 := hid (HB7.out.trans (hb7.mono HB7.out.size)); clear HB7 hb7 C4 d0 d1 d2 d3 d4 d5 d6 d7 d8 d9 d10 d11 d12 d13 d14 d15 d16 d17 d18 d19 d20 d21 d22 d23 d24 d25 d26 d27 d28 d29 d30 d31; have HB7 := HB8; clear HB8; obtain ⟨d0, d1, d2, d3, d4, d5, d6, d7, d8, d9, d10, d11, d12, d13, d14, d15, d16, d17, d18, d19, d20, d21, d22, d23, d24, d25, d26, d27, d28, d29, d30, d31⟩ := SB.out _ HB7.out))
    go_ret
    exact ⟨ret_i64 HE2.out.symm, HB0.out.trans (HB7.out.mono HB0.out.size)⟩
   ·skip
    have q2 : (c3 == 0) = false := beq_eq_false_iff_ne.2 z3
    have HE2 : Hid (cmpQ a b = c3) := hid (by rw [HE.out]; simp [orI, z3])
    clear z3 HE
    go_enter Tryz.func57, Tryz.ntmps57
    go_wp2_with (first | (go_at_call 85; (with_reducible refine (C1.out _).mono ?_); rintro e w5 ⟨rfl, hb7⟩; have HB8 := hid (HB7.out.trans (hb7.mono HB7.out.size)); clear HB7 hb7 C1 d0 d1 d2 d3 d4 d5 d6 d7 d8 d9 d10 d11 d12 d13 d14 d15 d16 d17 d18 d19 d20 d21 d22 d23 d24 d25 d26 d27 d28 d29 d30 d31; have HB7 := HB8; clear HB8; obtain ⟨d0, d1, d2, d3, d4, d5, d6, d7, d8, d9, d10, d11, d12, d13, d14, d15, d16, d17, d18, d19, d20, d21, d22, d23, d24, d25, d26, d27, d28, d29, d30, d31⟩ := SB.out _ HB7.out) | (go_at_call 85; (with_reducible refine (C2.out _).mono ?_); rintro e w6 ⟨rfl, hb7⟩; have HB8 := hid (HB7.out.trans (hb7.mono HB7.out.size)); clear HB7 hb7 C2 d0 d1 d2 d3 d4 d5 d6 d7 d8 d9 d10 d11 d12 d13 d14 d15 d16 d17 d18 d19 d20 d21 d22 d23 d24 d25 d26 d27 d28 d29 d30 d31; have HB7 := HB8; clear HB8; obtain ⟨d0, d1, d2, d3, d4, d5, d6, d7, d8, d9, d10, d11, d12, d13, d14, d15, d16, d17, d18, d19, d20, d21, d22, d23, d24, d25, d26, d27, d28, d29, d30, d31⟩ := SB.out _ HB7.out) | (go_at_call 85; (with_reducible refine (C3.out _).mono ?_); rintro e w7 ⟨rfl, hb7⟩; have HB8 := hid (HB7.out.trans (hb7.mono HB7.out.size)); clear HB7 hb7 C3 d0 d1 d2 d3 d4 d5 d6 d7 d8 d9 d10 d11 d12 d13 d14 d15 d16 d17 d18 d19 d20 d21 d22 d23 d24 d25 d26 d27 d28 d29 d30 d31; have HB7 := HB8; clear HB8; obtain ⟨d0, d1, d2, d3, d4, d5, d6, d7, d8, d9, d10, d11, d12, d13, d14, d15, d16, d17, d18, d19, d20, d21, d22, d23, d24, d25, d26, d27, d28, d29, d30, d31⟩ := SB.out _ HB7.out))
    go_ret
    exact ⟨ret_i64 HE2.out.symm, HB0.out.trans (HB7.out.mono HB0.out.size)⟩
  ·skip
   have q2 : (c2 == 0) = false := beq_eq_false_iff_ne.2 z2
   have HE2 : Hid (cmpQ a b = c2) := hid (by rw [HE.out]; simp [orI, z2])
   clear z2 HE
   go_enter Tryz.func57, Tryz.ntmps57
   go_wp2_with (first | (go_at_call 85; (with_reducible refine (C1.out _).mono ?_); rintro e w5 ⟨rfl, hb7⟩; have HB8 := hid (HB7.out.trans (hb7.mono HB7.out.size)); clear HB7 hb7 C1 d0 d1 d2 d3 d4 d5 d6 d7 d8 d9 d10 d11 d12 d13 d14 d15 d16 d17 d18 d19 d20 d21 d22 d23 d24 d25 d26 d27 d28 d29 d30 d31; have HB7 := HB8; clear HB8; obtain ⟨d0, d1, d2, d3, d4, d5, d6, d7, d8, d9, d10, d11, d12, d13, d14, d15, d16, d17, d18, d19, d20, d21, d22, d23, d24, d25, d26, d27, d28, d29, d30, d31⟩ := SB.out _ HB7.out) | (go_at_call 85; (with_reducible refine (C2.out _).mono ?_); rintro e w6 ⟨rfl, hb7⟩; have HB8 := hid (HB7.out.trans (hb7.mono HB7.out.size)); clear HB7 hb7 C2 d0 d1 d2 d3 d4 d5 d6 d7 d8 d9 d10 d11 d12 d13 d14 d15 d16 d17 d18 d19 d20 d21 d22 d23 d24 d25 d26 d27 d28 d29 d30 d31; have HB7 := HB8; clear HB8; obtain ⟨d0, d1, d2, d3, d4, d5, d6, d7, d8, d9, d10, d11, d12, d13, d14, d15, d16, d17, d18, d19, d20, d21, d22, d23, d24, d25, d26, d27, d28, d29, d30, d31⟩ := SB.out _ HB7.out))
   go_ret
   exact ⟨ret_i64 HE2.out.symm, HB0.out.trans (HB7.out.mono HB0.out.size)⟩
 ·skip
  have q2 : (c1 == 0) = false := beq_eq_false_iff_ne.2 z1
  have HE2 : Hid (cmpQ a b = c1) := hid (by rw [HE.out]; simp [orI, z1])
  clear z1 HE
  go_enter Tryz.func57, Tryz.ntmps57
  go_wp2_with (go_at_call 85; (with_reducible refine (C1.out _).mono ?_); rintro e w5 ⟨rfl, hb7⟩; have HB8 := hid (HB7.out.trans (hb7.mono HB7.out.size)); clear HB7 hb7 C1 d0 d1 d2 d3 d4 d5 d6 d7 d8 d9 d10 d11 d12 d13 d14 d15 d16 d17 d18 d19 d20 d21 d22 d23 d24 d25 d26 d27 d28 d29 d30 d31; have HB7 := HB8; clear HB8; obtain ⟨d0, d1, d2, d3, d4, d5, d6, d7, d8, d9, d10, d11, d12, d13, d14, d15, d16, d17, d18, d19, d20, d21, d22, d23, d24, d25, d26, d27, d28, d29, d30, d31⟩ := SB.out _ HB7.out)
  go_ret
  exact ⟨ret_i64 HE2.out.symm, HB0.out.trans (HB7.out.mono HB0.out.size)⟩
end Go.Proofs.YtdegonmkikfghaaGreatDoor
