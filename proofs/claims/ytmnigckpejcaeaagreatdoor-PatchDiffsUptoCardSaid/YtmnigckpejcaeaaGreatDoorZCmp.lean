/-
  term.Compare, term.CompareQuads: contracts. By an AI agent.
-/
import Derived.Test.YtmnigckpejcaeaaGreatDoorZQuad0
import Derived.Test.YtmnigckpejcaeaaGreatDoorZLabel
import Derived.Test.YtmnigckpejcaeaaGreatDoorShelf
import Derived.Test.YtmnigckpejcaeaaGreatDoorZStill
namespace Go.Proofs.YtmnigckpejcaeaaGreatDoor
open Go.RowKit
set_option maxRecDepth 100000
set_option maxHeartbeats 1600000 in
theorem orInt_l (x y z u : Int) (g : Nat) (w : World) (h0 : w.cell? ⟨g, 0, none⟩ = some (.int .i64 x)) (h1 : w.cell? ⟨g, 1, none⟩ = some (.int .i64 y)) (h2 : w.cell? ⟨g, 2, none⟩ = some (.int .i64 z)) (h3 : w.cell? ⟨g, 3, none⟩ = some (.int .i64 u)) :
   Calls Tryz.prog 95 #[.slice (some ⟨g, 0, none⟩) 4 4] w fun e w' => e = .returned (.int .i64 (orI x (orI y (orI z u)))) /\ w' = w := by
 have HX : Hid (orI x (orI y (orI z u)) = if x = 0 then (if y = 0 then (if z = 0 then u else z) else y) else x) := Lib.hid rfl
 have fin : ∀ (v : Int) (i : Nat), (v != 0) = true \/ (v != 0) = false := fun v _ => by cases (v != 0) <;> simp
 clear fin
 go_enter Tryz.func95, Tryz.ntmps95
 go_wp2_with fail
 go_loop [8] (fun i => i = .int .i64 0 \/ (i = .int .i64 1 /\ x = 0) \/ (i = .int .i64 2 /\ x = 0 /\ y = 0) \/ (i = .int .i64 3 /\ x = 0 /\ y = 0 /\ z = 0) \/ (i = .int .i64 4 /\ x = 0 /\ y = 0 /\ z = 0 /\ u = 0)) (fun i => 4 - (intOf i).toNat)
 case atStart => exact .inl rfl
 case round =>
   rcases hrel with rfl | ⟨rfl, hx⟩ | ⟨rfl, hx, hy⟩ | ⟨rfl, hx, hy, hz⟩ | ⟨rfl, hx, hy, hz, hu⟩
   · by_cases e : x = 0
     · have q : (x != 0) = false := by rw [e]; rfl
       have E := Lib.hid e
       clear HX e
       go_wp2_with fail
       go_round
       case rel => exact .inr (.inl ⟨rfl, E.out⟩)
       case measure => simp [intOf]
     · have q : (x != 0) = true := by rw [bne, beq_eq_false_iff_ne.2 e]; rfl
       have HE : Hid (orI x (orI y (orI z u)) = x) := Lib.hid (by rw [HX.out, if_neg e])
       clear HX e
       go_wp2_with fail
       go_ret
       exact ⟨ret_i64 HE.out.symm, rfl⟩
   · have HH := Lib.hid hx
     clear hx
     by_cases e : y = 0
     · have q : (y != 0) = false := by rw [e]; rfl
       have E := Lib.hid e
       clear HX e
       go_wp2_with fail
       go_round
       case rel => exact .inr (.inr (.inl ⟨rfl, HH.out, E.out⟩))
       case measure => simp [intOf]
     · have q : (y != 0) = true := by rw [bne, beq_eq_false_iff_ne.2 e]; rfl
       have HE : Hid (orI x (orI y (orI z u)) = y) := Lib.hid (by rw [HX.out, if_pos HH.out, if_neg e])
       clear HX e
       go_wp2_with fail
       go_ret
       exact ⟨ret_i64 HE.out.symm, rfl⟩
   · have HH := Lib.hid (And.intro hx hy)
     clear hx hy
     by_cases e : z = 0
     · have q : (z != 0) = false := by rw [e]; rfl
       have E := Lib.hid e
       clear HX e
       go_wp2_with fail
       go_round
       case rel => exact .inr (.inr (.inr (.inl ⟨rfl, HH.out.1, HH.out.2, E.out⟩)))
       case measure => simp [intOf]
     · have q : (z != 0) = true := by rw [bne, beq_eq_false_iff_ne.2 e]; rfl
       have HE : Hid (orI x (orI y (orI z u)) = z) := Lib.hid (by rw [HX.out, if_pos HH.out.1, if_pos HH.out.2, if_neg e])
       clear HX e
       go_wp2_with fail
       go_ret
       exact ⟨ret_i64 HE.out.symm, rfl⟩
   · have HH := Lib.hid (And.intro hx (And.intro hy hz))
     clear hx hy hz
     by_cases e : u = 0
     · have q : (u != 0) = false := by rw [e]; rfl
       have E := Lib.hid e
       clear HX e
       go_wp2_with fail
       go_round
       case rel => exact .inr (.inr (.inr (.inr ⟨rfl, HH.out.1, HH.out.2.1, HH.out.2.2, E.out⟩)))
       case measure => simp [intOf]
     · have q : (u != 0) = true := by rw [bne, beq_eq_false_iff_ne.2 e]; rfl
       have HE : Hid (orI x (orI y (orI z u)) = u) := Lib.hid (by rw [HX.out, if_pos HH.out.1, if_pos HH.out.2.1, if_pos HH.out.2.2])
       clear HX e
       go_wp2_with fail
       go_ret
       exact ⟨ret_i64 HE.out.symm, rfl⟩
   · have HE : Hid (orI x (orI y (orI z u)) = 0) := Lib.hid (by rw [HX.out, if_pos hx, if_pos hy, if_pos hz, hu])
     clear HX hx hy hz hu
     go_wp2_with fail
     go_ret
     exact ⟨ret_i64 HE.out.symm, rfl⟩
theorem strCmp_l (a b : List UInt8) (w : World) : Calls Tryz.prog 127 #[.string (B a), .string (B b)] w fun e w' => e = .returned (.int .i64 (Lib.compareBytes a b)) /\ w' = w := by
 have := Tryz.strings_Compare (B a) (B b) w
 rw [B_toList, B_toList] at this
 exact this
set_option maxHeartbeats 1000000 in
theorem compare_l (a b : TermL) (w : World) : Calls Tryz.prog 96 #[.agg (termC a).toArray, .agg (termC b).toArray] w fun e w' => e = .returned (.int .i64 (cmpT a b)) /\ Below w.heap.size w w' := by
 obtain ⟨k, tx, ty, la⟩ := a
 obtain ⟨k2, tx2, ty2, la2⟩ := b
 have BA : ∀ o1 o2, Below w.heap.size w ((w.alloc o1).alloc o2) := fun o1 o2 => ((Below.refl _ _).alloc (Nat.le_refl _) _).alloc (by simp) _
 have HB := Lib.hid BA
 clear BA
 have HE : Hid (cmpT ⟨k, tx, ty, la⟩ ⟨k2, tx2, ty2, la2⟩ = orI (Lib.compareInt k k2) (orI (Lib.compareBytes tx tx2) (orI (Lib.compareBytes ty ty2) (Lib.compareBytes la la2)))) := Lib.hid rfl
 have OR := Lib.hid (fun (W : World) => orInt_l (Lib.compareInt k k2) (Lib.compareBytes tx tx2) (Lib.compareBytes ty ty2) (Lib.compareBytes la la2) (w.heap.size + 1 + 1) W)
 unfold termC
 simp only
 go_enter Tryz.func96, Tryz.ntmps96
 go_wp2_with fail
 refine region_still 20 (by kernel_rfl) (by kernel_rfl) ?_
 simp only [List.take_succ_cons, List.take_zero, List.drop_succ_cons, List.drop_zero]
 repeat (first | still_step | still_call (Tryz.cmp_Compare_int _ _ _) | still_call (strCmp_l _ _ _))
 refine wpStill_nil ?_
 go_wp2_with fail
 (with_reducible refine (OR.out _ ?c0 ?c1 ?c2 ?c3).mono ?_)
 case c0 => go_simp
 case c1 => go_simp
 case c2 => go_simp
 case c3 => go_simp
 rintro e w4 ⟨rfl, rfl⟩
 go_wp2_with fail
 go_ret
 exact ⟨ret_i64 HE.out.symm, (((((Below.refl _ _).alloc (Nat.le_refl _) _).alloc (by simp) _).trans ((below_drewN _ 1).mono (by simp; omega))).alloc (by simp; omega) _)⟩
end Go.Proofs.YtmnigckpejcaeaaGreatDoor
namespace Go.Proofs.YtmnigckpejcaeaaGreatDoor
open Go.RowKit
set_option maxRecDepth 100000
theorem quadC_cells (q : QuadL) : (quadC q).toArray = #[.int .i64 q.s.kind, .string (B q.s.text), .string (B q.s.type), .string (B q.s.lang), .int .i64 q.p.kind, .string (B q.p.text), .string (B q.p.type), .string (B q.p.lang), .int .i64 q.o.kind, .string (B q.o.text), .string (B q.o.type), .string (B q.o.lang), .int .i64 q.g.kind, .string (B q.g.text), .string (B q.g.type), .string (B q.g.lang)] := rfl
theorem held2 {w W w' : World} {A C : Array Value} {T : TypeId} (e : (w.alloc (.cells A T)).alloc (.cells C T) = W) (h : Below W.heap.size W w') :
   (∀ j x, A[j]? = some x -> w'.cell? ⟨w.heap.size, j, none⟩ = some x) /\ (∀ j x, C[j]? = some x -> w'.cell? ⟨w.heap.size + 1, j, none⟩ = some x) := by
 subst e
 refine ⟨fun j x hx => ?_, fun j x hx => ?_⟩
 · rw [h.cell (p := ⟨w.heap.size, j, none⟩) (by simp; omega)]
   rw [show ((w.alloc (.cells A T)).alloc (.cells C T)).cell? ⟨w.heap.size, j, none⟩ = (w.alloc (.cells A T)).cell? ⟨w.heap.size, j, none⟩ from ((Below.refl _ _).alloc (Nat.le_refl _) _ : Below (w.alloc (.cells A T)).heap.size (w.alloc (.cells A T)) _).cell (p := ⟨w.heap.size, j, none⟩) (by simp), World.cell?_alloc_new]
   exact hx
 · rw [h.cell (p := ⟨w.heap.size + 1, j, none⟩) (by simp)]
   have := World.cell?_alloc_new (w.alloc (.cells A T)) C T j
   rw [World.size_alloc] at this
   rw [this]
   exact hx
theorem compare_c (x y : TermL) (W : World) : Calls Tryz.prog 96 #[.agg #[.int .i64 x.kind, .string (B x.text), .string (B x.type), .string (B x.lang)], .agg #[.int .i64 y.kind, .string (B y.text), .string (B y.type), .string (B y.lang)]] W fun e w' => e = .returned (.int .i64 (cmpT x y)) /\ Below W.heap.size W w' := compare_l x y W
set_option maxHeartbeats 2000000 in
theorem compareQuads_l (a b : QuadL) (w : World) : Calls Tryz.prog 61 #[.agg (quadC a).toArray, .agg (quadC b).toArray] w fun e w' => e = .returned (.int .i64 (cmpQ a b)) /\ Below w.heap.size w w' := by
 rw [quadC_cells, quadC_cells]
 have HE : Hid (cmpQ a b = orI (cmpT a.g b.g) (orI (cmpT a.s b.s) (orI (cmpT a.p b.p) (cmpT a.o b.o)))) := Lib.hid rfl
 have CT := Lib.hid (fun (x y : TermL) (W : World) => compare_c x y W)
 have OR := Lib.hid (fun (g : Nat) (W : World) => orInt_l (cmpT a.g b.g) (cmpT a.s b.s) (cmpT a.p b.p) (cmpT a.o b.o) g W)
 obtain ⟨W, hW⟩ : ∃ W, (w.alloc (.cells #[.int .i64 a.s.kind, .string (B a.s.text), .string (B a.s.type), .string (B a.s.lang), .int .i64 a.p.kind, .string (B a.p.text), .string (B a.p.type), .string (B a.p.lang), .int .i64 a.o.kind, .string (B a.o.text), .string (B a.o.type), .string (B a.o.lang), .int .i64 a.g.kind, .string (B a.g.text), .string (B a.g.type), .string (B a.g.lang)] 56)).alloc (.cells #[.int .i64 b.s.kind, .string (B b.s.text), .string (B b.s.type), .string (B b.s.lang), .int .i64 b.p.kind, .string (B b.p.text), .string (B b.p.type), .string (B b.p.lang), .int .i64 b.o.kind, .string (B b.o.text), .string (B b.o.type), .string (B b.o.lang), .int .i64 b.g.kind, .string (B b.g.text), .string (B b.g.type), .string (B b.g.lang)] 56) = W := ⟨_, rfl⟩
 have SB : Hid (∀ w', Below W.heap.size W w' -> w'.cell? ⟨w.heap.size, 0, none⟩ = some (.int .i64 a.s.kind) /\ w'.cell? ⟨w.heap.size, 1, none⟩ = some (.string (B a.s.text)) /\ w'.cell? ⟨w.heap.size, 2, none⟩ = some (.string (B a.s.type)) /\ w'.cell? ⟨w.heap.size, 3, none⟩ = some (.string (B a.s.lang)) /\ w'.cell? ⟨w.heap.size, 4, none⟩ = some (.int .i64 a.p.kind) /\ w'.cell? ⟨w.heap.size, 5, none⟩ = some (.string (B a.p.text)) /\ w'.cell? ⟨w.heap.size, 6, none⟩ = some (.string (B a.p.type)) /\ w'.cell? ⟨w.heap.size, 7, none⟩ = some (.string (B a.p.lang)) /\ w'.cell? ⟨w.heap.size, 8, none⟩ = some (.int .i64 a.o.kind) /\ w'.cell? ⟨w.heap.size, 9, none⟩ = some (.string (B a.o.text)) /\ w'.cell? ⟨w.heap.size, 10, none⟩ = some (.string (B a.o.type)) /\ w'.cell? ⟨w.heap.size, 11, none⟩ = some (.string (B a.o.lang)) /\ w'.cell? ⟨w.heap.size, 12, none⟩ = some (.int .i64 a.g.kind) /\ w'.cell? ⟨w.heap.size, 13, none⟩ = some (.string (B a.g.text)) /\ w'.cell? ⟨w.heap.size, 14, none⟩ = some (.string (B a.g.type)) /\ w'.cell? ⟨w.heap.size, 15, none⟩ = some (.string (B a.g.lang)) /\ w'.cell? ⟨w.heap.size + 1, 0, none⟩ = some (.int .i64 b.s.kind) /\ w'.cell? ⟨w.heap.size + 1, 1, none⟩ = some (.string (B b.s.text)) /\ w'.cell? ⟨w.heap.size + 1, 2, none⟩ = some (.string (B b.s.type)) /\ w'.cell? ⟨w.heap.size + 1, 3, none⟩ = some (.string (B b.s.lang)) /\ w'.cell? ⟨w.heap.size + 1, 4, none⟩ = some (.int .i64 b.p.kind) /\ w'.cell? ⟨w.heap.size + 1, 5, none⟩ = some (.string (B b.p.text)) /\ w'.cell? ⟨w.heap.size + 1, 6, none⟩ = some (.string (B b.p.type)) /\ w'.cell? ⟨w.heap.size + 1, 7, none⟩ = some (.string (B b.p.lang)) /\ w'.cell? ⟨w.heap.size + 1, 8, none⟩ = some (.int .i64 b.o.kind) /\ w'.cell? ⟨w.heap.size + 1, 9, none⟩ = some (.string (B b.o.text)) /\ w'.cell? ⟨w.heap.size + 1, 10, none⟩ = some (.string (B b.o.type)) /\ w'.cell? ⟨w.heap.size + 1, 11, none⟩ = some (.string (B b.o.lang)) /\ w'.cell? ⟨w.heap.size + 1, 12, none⟩ = some (.int .i64 b.g.kind) /\ w'.cell? ⟨w.heap.size + 1, 13, none⟩ = some (.string (B b.g.text)) /\ w'.cell? ⟨w.heap.size + 1, 14, none⟩ = some (.string (B b.g.type)) /\ w'.cell? ⟨w.heap.size + 1, 15, none⟩ = some (.string (B b.g.lang))) := Lib.hid (fun w' h => by
   obtain ⟨h1, h2⟩ := held2 hW h
   exact ⟨h1 0 _ rfl, h1 1 _ rfl, h1 2 _ rfl, h1 3 _ rfl, h1 4 _ rfl, h1 5 _ rfl, h1 6 _ rfl, h1 7 _ rfl, h1 8 _ rfl, h1 9 _ rfl, h1 10 _ rfl, h1 11 _ rfl, h1 12 _ rfl, h1 13 _ rfl, h1 14 _ rfl, h1 15 _ rfl, h2 0 _ rfl, h2 1 _ rfl, h2 2 _ rfl, h2 3 _ rfl, h2 4 _ rfl, h2 5 _ rfl, h2 6 _ rfl, h2 7 _ rfl, h2 8 _ rfl, h2 9 _ rfl, h2 10 _ rfl, h2 11 _ rfl, h2 12 _ rfl, h2 13 _ rfl, h2 14 _ rfl, h2 15 _ rfl⟩)
 have HB7 : Hid (Below W.heap.size W W.drew) := Lib.hid (below_drewN W 1)
 have HB0 : Hid (Below w.heap.size w W) := Lib.hid (by rw [<- hW]; exact ((Below.refl _ _).alloc (Nat.le_refl _) _).alloc (by simp) _)
 go_enter Tryz.func61, Tryz.ntmps61
 go_wp2_with fail
 go_region_held3 (fun w' => w'.cell? ⟨w.heap.size, 0, none⟩ = some (.int .i64 a.s.kind) /\ w'.cell? ⟨w.heap.size, 1, none⟩ = some (.string (B a.s.text)) /\ w'.cell? ⟨w.heap.size, 2, none⟩ = some (.string (B a.s.type)) /\ w'.cell? ⟨w.heap.size, 3, none⟩ = some (.string (B a.s.lang)) /\ w'.cell? ⟨w.heap.size, 4, none⟩ = some (.int .i64 a.p.kind) /\ w'.cell? ⟨w.heap.size, 5, none⟩ = some (.string (B a.p.text)) /\ w'.cell? ⟨w.heap.size, 6, none⟩ = some (.string (B a.p.type)) /\ w'.cell? ⟨w.heap.size, 7, none⟩ = some (.string (B a.p.lang)) /\ w'.cell? ⟨w.heap.size, 8, none⟩ = some (.int .i64 a.o.kind) /\ w'.cell? ⟨w.heap.size, 9, none⟩ = some (.string (B a.o.text)) /\ w'.cell? ⟨w.heap.size, 10, none⟩ = some (.string (B a.o.type)) /\ w'.cell? ⟨w.heap.size, 11, none⟩ = some (.string (B a.o.lang)) /\ w'.cell? ⟨w.heap.size, 12, none⟩ = some (.int .i64 a.g.kind) /\ w'.cell? ⟨w.heap.size, 13, none⟩ = some (.string (B a.g.text)) /\ w'.cell? ⟨w.heap.size, 14, none⟩ = some (.string (B a.g.type)) /\ w'.cell? ⟨w.heap.size, 15, none⟩ = some (.string (B a.g.lang)) /\ w'.cell? ⟨w.heap.size + 1, 0, none⟩ = some (.int .i64 b.s.kind) /\ w'.cell? ⟨w.heap.size + 1, 1, none⟩ = some (.string (B b.s.text)) /\ w'.cell? ⟨w.heap.size + 1, 2, none⟩ = some (.string (B b.s.type)) /\ w'.cell? ⟨w.heap.size + 1, 3, none⟩ = some (.string (B b.s.lang)) /\ w'.cell? ⟨w.heap.size + 1, 4, none⟩ = some (.int .i64 b.p.kind) /\ w'.cell? ⟨w.heap.size + 1, 5, none⟩ = some (.string (B b.p.text)) /\ w'.cell? ⟨w.heap.size + 1, 6, none⟩ = some (.string (B b.p.type)) /\ w'.cell? ⟨w.heap.size + 1, 7, none⟩ = some (.string (B b.p.lang)) /\ w'.cell? ⟨w.heap.size + 1, 8, none⟩ = some (.int .i64 b.o.kind) /\ w'.cell? ⟨w.heap.size + 1, 9, none⟩ = some (.string (B b.o.text)) /\ w'.cell? ⟨w.heap.size + 1, 10, none⟩ = some (.string (B b.o.type)) /\ w'.cell? ⟨w.heap.size + 1, 11, none⟩ = some (.string (B b.o.lang)) /\ w'.cell? ⟨w.heap.size + 1, 12, none⟩ = some (.int .i64 b.g.kind) /\ w'.cell? ⟨w.heap.size + 1, 13, none⟩ = some (.string (B b.g.text)) /\ w'.cell? ⟨w.heap.size + 1, 14, none⟩ = some (.string (B b.g.type)) /\ w'.cell? ⟨w.heap.size + 1, 15, none⟩ = some (.string (B b.g.lang))) (first | exact SB.out _ HB7.out | exact SB.out _ (HB7.out.alloc HB7.out.size _))
   (first | (go_at_call 96; (with_reducible refine (CT.out _ _ _).mono ?_); rintro e w7 ⟨rfl, hb7⟩; have HB8 := Lib.hid (HB7.out.trans (hb7.mono HB7.out.size)); clear HB7 hb7; have HB7 := HB8; clear HB8) | (go_at_call 95; (with_reducible refine (OR.out _ _ ?c0 ?c1 ?c2 ?c3).mono ?_); (case c0 => go_simp); (case c1 => go_simp); (case c2 => go_simp); (case c3 => go_simp); rintro e w8 ⟨rfl, rfl⟩))
 go_wp2_with fail
 go_ret
 exact ⟨ret_i64 HE.out.symm, HB0.out.trans ((HB7.out.alloc HB7.out.size _).mono HB0.out.size)⟩
end Go.Proofs.YtmnigckpejcaeaaGreatDoor
