/-
  The reference's CheckQuad: contract. By an AI agent.
-/
import Derived.Test.YtdegonmkikfghaaGreatDoorZLoadQ
import Derived.Test.YtdegonmkikfghaaGreatDoorZTerm0
import Derived.Laws.Cover1
import Derived.Test.YtdegonmkikfghaaGreatDoorZQuad0
import Derived.WalkLawsBesides
import Derived.Test.YtdegonmkikfghaaGreatDoorZTermD
namespace Go.Proofs.YtdegonmkikfghaaGreatDoor
open Go.RowKit
set_option maxRecDepth 100000
def ShortR (q : QuadL) : Prop := ∀ t, (t = q.s \/ t = q.p \/ t = q.o \/ t = q.g) -> t.text.length <= 1048576 /\ t.type.length <= 1048576 /\ t.lang.length <= 1048576
set_option maxHeartbeats 1000000 in
theorem eql_t (p q : TermL) (w : World) : (binOp .eql 34 (.agg #[.int .i64 p.kind, .string (B p.text), .string (B p.type), .string (B p.lang)]) (.agg #[.int .i64 q.kind, .string (B q.text), .string (B q.type), .string (B q.lang)])).run Tryz.prog w = .ok (.bool (decide (p = q))) w := by
 obtain ⟨k1, a1, b1, c1⟩ := p
 obtain ⟨l1, d1, e1, f1⟩ := q
 go_simp
 by_cases h : k1 = l1
 case neg => rw [if_neg h]; simp [h]
 subst h
 rw [if_pos rfl]
 by_cases h : a1 = d1
 case neg => rw [if_neg h]; simp [h]
 subst h
 rw [if_pos rfl]
 by_cases h : b1 = e1
 case neg => rw [if_neg h]; simp [h]
 subst h
 rw [if_pos rfl]
 by_cases h : c1 = f1
 case neg => rw [if_neg h]; simp [h]
 subst h
 rw [if_pos rfl]
 simp
theorem termN_kind {t : TermL} (h : ¬ (t.kind = 1 \/ t.kind = 2 \/ t.kind = 3)) : termN t = 70 := by
 unfold termN
 rw [if_neg (fun e => h (e.elim .inl (fun e => .inr (.inl e)))), if_neg (fun e => h (.inr (.inr e)))]
theorem quadN_ref (q : QuadL) : quadN q = if ¬ (q.s.kind = 1 \/ q.s.kind = 2) then 70 else if termN q.s ≠ 0 then termN q.s else if q.p.kind ≠ 1 then 70 else if termN q.p ≠ 0 then termN q.p
   else if termN q.o ≠ 0 then termN q.o else if q.g = noTerm then 0 else if ¬ (q.g.kind = 1 \/ q.g.kind = 2) then 70 else termN q.g := by
 unfold quadN
 by_cases h : q.o.kind = 1 \/ q.o.kind = 2 \/ q.o.kind = 3
 · rw [if_neg (c := ¬ (q.o.kind = 1 \/ q.o.kind = 2 \/ q.o.kind = 3)) (fun e => e h)]
 · rw [if_pos (c := ¬ (q.o.kind = 1 \/ q.o.kind = 2 \/ q.o.kind = 3)) h, termN_kind h]
   simp
theorem keqR {k n : Int} (h : k = n) : (k == n) = true /\ (k != n) = false := by subst h; simp
theorem kneR {k n : Int} (h : k ≠ n) : (k == n) = false /\ (k != n) = true := by simp [h]
set_option maxHeartbeats 4000000 in
theorem refCheckQuad_l (q : QuadL) (w : World) (hS : ShortR q) : Calls Tryz.prog 41 #[qv q] w fun e w' => e = .returned (.int .i64 (quadN q)) /\ Below w.heap.size w w' := by
 have HE : Hid (quadN q = if ¬ (q.s.kind = 1 \/ q.s.kind = 2) then 70 else if termN q.s ≠ 0 then termN q.s else if q.p.kind ≠ 1 then 70 else if termN q.p ≠ 0 then termN q.p
   else if termN q.o ≠ 0 then termN q.o else if q.g = noTerm then 0 else if ¬ (q.g.kind = 1 \/ q.g.kind = 2) then 70 else termN q.g) := Lib.hid (quadN_ref q)
 have C0 : Hid (∀ u, Calls Tryz.prog 66 #[.agg #[.int .i64 q.s.kind, .string (B q.s.text), .string (B q.s.type), .string (B q.s.lang)]] u fun e w' => e = .returned (.int .i64 (termN q.s)) /\ Below u.heap.size u w') := Lib.hid (fun u => refCheck_l q.s u (hS q.s (.inl rfl)).1 (hS q.s (.inl rfl)).2.1 (hS q.s (.inl rfl)).2.2)
 have C1 : Hid (∀ u, Calls Tryz.prog 66 #[.agg #[.int .i64 q.p.kind, .string (B q.p.text), .string (B q.p.type), .string (B q.p.lang)]] u fun e w' => e = .returned (.int .i64 (termN q.p)) /\ Below u.heap.size u w') := Lib.hid (fun u => refCheck_l q.p u (hS q.p (.inr (.inl rfl))).1 (hS q.p (.inr (.inl rfl))).2.1 (hS q.p (.inr (.inl rfl))).2.2)
 have C2 : Hid (∀ u, Calls Tryz.prog 66 #[.agg #[.int .i64 q.o.kind, .string (B q.o.text), .string (B q.o.type), .string (B q.o.lang)]] u fun e w' => e = .returned (.int .i64 (termN q.o)) /\ Below u.heap.size u w') := Lib.hid (fun u => refCheck_l q.o u (hS q.o (.inr (.inr (.inl rfl)))).1 (hS q.o (.inr (.inr (.inl rfl)))).2.1 (hS q.o (.inr (.inr (.inl rfl)))).2.2)
 have C3 : Hid (∀ u, Calls Tryz.prog 66 #[.agg #[.int .i64 q.g.kind, .string (B q.g.text), .string (B q.g.type), .string (B q.g.lang)]] u fun e w' => e = .returned (.int .i64 (termN q.g)) /\ Below u.heap.size u w') := Lib.hid (fun u => refCheck_l q.g u (hS q.g (.inr (.inr (.inr rfl)))).1 (hS q.g (.inr (.inr (.inr rfl)))).2.1 (hS q.g (.inr (.inr (.inr rfl)))).2.2)
 have ET : ∀ u, (binOp .eql 34 (.agg #[.int .i64 q.g.kind, .string (B q.g.text), .string (B q.g.type), .string (B q.g.lang)]) (.agg #[.int .i64 0, .string ⟨#[]⟩, .string ⟨#[]⟩, .string ⟨#[]⟩])).run Tryz.prog u = .ok (.bool (decide (q.g = noTerm))) u := fun u => eql_t q.g noTerm u
 obtain ⟨W, hW⟩ : ∃ W, w.alloc (.cells #[.int .i64 q.s.kind, .string (B q.s.text), .string (B q.s.type), .string (B q.s.lang), .int .i64 q.p.kind, .string (B q.p.text), .string (B q.p.type), .string (B q.p.lang), .int .i64 q.o.kind, .string (B q.o.text), .string (B q.o.type), .string (B q.o.lang), .int .i64 q.g.kind, .string (B q.g.text), .string (B q.g.type), .string (B q.g.lang)] 36) = W := ⟨_, rfl⟩
 have SB : Hid (∀ w', Below W.heap.size W w' -> w'.cell? ⟨w.heap.size, 0, none⟩ = some (.int .i64 q.s.kind) /\ w'.cell? ⟨w.heap.size, 1, none⟩ = some (.string (B q.s.text)) /\ w'.cell? ⟨w.heap.size, 2, none⟩ = some (.string (B q.s.type)) /\ w'.cell? ⟨w.heap.size, 3, none⟩ = some (.string (B q.s.lang)) /\ w'.cell? ⟨w.heap.size, 4, none⟩ = some (.int .i64 q.p.kind) /\ w'.cell? ⟨w.heap.size, 5, none⟩ = some (.string (B q.p.text)) /\ w'.cell? ⟨w.heap.size, 6, none⟩ = some (.string (B q.p.type)) /\ w'.cell? ⟨w.heap.size, 7, none⟩ = some (.string (B q.p.lang)) /\ w'.cell? ⟨w.heap.size, 8, none⟩ = some (.int .i64 q.o.kind) /\ w'.cell? ⟨w.heap.size, 9, none⟩ = some (.string (B q.o.text)) /\ w'.cell? ⟨w.heap.size, 10, none⟩ = some (.string (B q.o.type)) /\ w'.cell? ⟨w.heap.size, 11, none⟩ = some (.string (B q.o.lang)) /\ w'.cell? ⟨w.heap.size, 12, none⟩ = some (.int .i64 q.g.kind) /\ w'.cell? ⟨w.heap.size, 13, none⟩ = some (.string (B q.g.text)) /\ w'.cell? ⟨w.heap.size, 14, none⟩ = some (.string (B q.g.type)) /\ w'.cell? ⟨w.heap.size, 15, none⟩ = some (.string (B q.g.lang))) := Lib.hid (fun w' h => by
   rw [<- hW] at h
   exact ⟨new_cell h 0 _ rfl, new_cell h 1 _ rfl, new_cell h 2 _ rfl, new_cell h 3 _ rfl, new_cell h 4 _ rfl, new_cell h 5 _ rfl, new_cell h 6 _ rfl, new_cell h 7 _ rfl, new_cell h 8 _ rfl, new_cell h 9 _ rfl, new_cell h 10 _ rfl, new_cell h 11 _ rfl, new_cell h 12 _ rfl, new_cell h 13 _ rfl, new_cell h 14 _ rfl, new_cell h 15 _ rfl⟩)
 have HB7 : Hid (Below W.heap.size W W) := Lib.hid (Below.refl _ _)
 have HB0 : Hid (Below w.heap.size w W) := Lib.hid (by rw [<- hW]; exact (Below.refl _ _).alloc (Nat.le_refl _) _)
 obtain ⟨d0, d1, d2, d3, d4, d5, d6, d7, d8, d9, d10, d11, d12, d13, d14, d15⟩ := SB.out _ HB7.out
 clear hS
 obtain ⟨n0, h0⟩ : ∃ n, termN q.s = n := ⟨_, rfl⟩
 rw [h0] at C0 HE
 clear h0
 obtain ⟨n1, h1⟩ : ∃ n, termN q.p = n := ⟨_, rfl⟩
 rw [h1] at C1 HE
 clear h1
 obtain ⟨n2, h2⟩ : ∃ n, termN q.o = n := ⟨_, rfl⟩
 rw [h2] at C2 HE
 clear h2
 obtain ⟨n3, h3⟩ : ∃ n, termN q.g = n := ⟨_, rfl⟩
 rw [h3] at C3 HE
 clear h3
 by_cases sok : q.s.kind = 1 \/ q.s.kind = 2
 case neg =>
   as_aux_lemma =>
   have a1 := kneR (fun h => sok (.inl h) : q.s.kind ≠ 1)
   have a2 := kneR (fun h => sok (.inr h) : q.s.kind ≠ 2)
   obtain ⟨a1, a3⟩ := a1
   obtain ⟨a2, a4⟩ := a2
   have HE2 : Hid (quadN q = 70) := Lib.hid (by rw [HE.out, if_pos sok])
   clear sok C0 C1 C2 C3 ET
   clear HE
   go_enter Tryz.func41, Tryz.ntmps41
   go_wp2_with fail
   go_ret
   exact ⟨ret_i64 HE2.out.symm, HB0.out.trans (HB7.out.mono HB0.out.size)⟩
 have sk : ((q.s.kind == 1) = true /\ (q.s.kind != 1) = false) \/ ((q.s.kind == 1) = false /\ (q.s.kind != 1) = true /\ (q.s.kind == 2) = true /\ (q.s.kind != 2) = false) := by
   by_cases h1 : q.s.kind = 1
   · exact .inl (keqR h1)
   · exact .inr ⟨(kneR h1).1, (kneR h1).2, keqR (sok.resolve_left h1)⟩
 by_cases z0 : n0 = 0
 case neg =>
   as_aux_lemma =>
   have HE2 : Hid (quadN q = n0) := Lib.hid (by rw [HE.out, if_neg (fun h => h sok), if_pos (c := n0 ≠ 0) z0])
   have q0 := (kneR z0).2
   have q0b := (kneR z0).1
   clear z0 ET C1 C2 C3 sok
   rcases sk with ⟨a1, a2⟩ | ⟨a1, a2, a3, a4⟩
   all_goals
     clear HE
     go_enter Tryz.func41, Tryz.ntmps41
     go_wp2_with (go_at_call 66; (with_reducible refine (C0.out _).mono ?_); rintro e w5 ⟨rfl, hb7⟩; have HB8 := Lib.hid (HB7.out.trans (hb7.mono HB7.out.size)); clear HB7 hb7 C0 d0 d1 d2 d3 d4 d5 d6 d7 d8 d9 d10 d11 d12 d13 d14 d15; have HB7 := HB8; clear HB8; obtain ⟨d0, d1, d2, d3, d4, d5, d6, d7, d8, d9, d10, d11, d12, d13, d14, d15⟩ := SB.out _ HB7.out)
     go_ret
     exact ⟨ret_i64 HE2.out.symm, HB0.out.trans (HB7.out.mono HB0.out.size)⟩
 subst z0
 by_cases pk : q.p.kind = 1
 case neg =>
   as_aux_lemma =>
   have HE2 : Hid (quadN q = 70) := Lib.hid (by rw [HE.out, if_neg (fun h => h sok), if_neg (c := (0 : Int) ≠ 0) (fun h => h rfl), if_pos (c := q.p.kind ≠ 1) pk])
   obtain ⟨p1, p2⟩ := kneR pk
   clear sok pk C1 C2 C3 ET
   rcases sk with ⟨a1, a2⟩ | ⟨a1, a2, a3, a4⟩
   all_goals
     clear HE
     go_enter Tryz.func41, Tryz.ntmps41
     go_wp2_with (go_at_call 66; (with_reducible refine (C0.out _).mono ?_); rintro e w5 ⟨rfl, hb7⟩; have HB8 := Lib.hid (HB7.out.trans (hb7.mono HB7.out.size)); clear HB7 hb7 C0 d0 d1 d2 d3 d4 d5 d6 d7 d8 d9 d10 d11 d12 d13 d14 d15; have HB7 := HB8; clear HB8; obtain ⟨d0, d1, d2, d3, d4, d5, d6, d7, d8, d9, d10, d11, d12, d13, d14, d15⟩ := SB.out _ HB7.out)
     go_ret
     exact ⟨ret_i64 HE2.out.symm, HB0.out.trans (HB7.out.mono HB0.out.size)⟩
 obtain ⟨p1, p2⟩ := keqR pk
 by_cases z1 : n1 = 0
 case neg =>
   as_aux_lemma =>
   have HE2 : Hid (quadN q = n1) := Lib.hid (by rw [HE.out, if_neg (fun h => h sok), if_neg (c := (0 : Int) ≠ 0) (fun h => h rfl), if_neg (c := q.p.kind ≠ 1) (fun h => h pk), if_pos (c := n1 ≠ 0) z1])
   have q1 := (kneR z1).2
   have q1b := (kneR z1).1
   clear z1 ET C2 C3 sok pk
   rcases sk with ⟨a1, a2⟩ | ⟨a1, a2, a3, a4⟩
   all_goals
     clear HE
     go_enter Tryz.func41, Tryz.ntmps41
     go_wp2_with (first | (go_at_call 66; (with_reducible refine (C0.out _).mono ?_); rintro e w5 ⟨rfl, hb7⟩; have HB8 := Lib.hid (HB7.out.trans (hb7.mono HB7.out.size)); clear HB7 hb7 C0 d0 d1 d2 d3 d4 d5 d6 d7 d8 d9 d10 d11 d12 d13 d14 d15; have HB7 := HB8; clear HB8; obtain ⟨d0, d1, d2, d3, d4, d5, d6, d7, d8, d9, d10, d11, d12, d13, d14, d15⟩ := SB.out _ HB7.out) | (go_at_call 66; (with_reducible refine (C1.out _).mono ?_); rintro e w6 ⟨rfl, hb7⟩; have HB8 := Lib.hid (HB7.out.trans (hb7.mono HB7.out.size)); clear HB7 hb7 C1 d0 d1 d2 d3 d4 d5 d6 d7 d8 d9 d10 d11 d12 d13 d14 d15; have HB7 := HB8; clear HB8; obtain ⟨d0, d1, d2, d3, d4, d5, d6, d7, d8, d9, d10, d11, d12, d13, d14, d15⟩ := SB.out _ HB7.out))
     go_ret
     exact ⟨ret_i64 HE2.out.symm, HB0.out.trans (HB7.out.mono HB0.out.size)⟩
 subst z1
 by_cases z2 : n2 = 0
 case neg =>
   as_aux_lemma =>
   have HE2 : Hid (quadN q = n2) := Lib.hid (by rw [HE.out, if_neg (fun h => h sok), if_neg (c := (0 : Int) ≠ 0) (fun h => h rfl), if_neg (c := q.p.kind ≠ 1) (fun h => h pk), if_neg (c := (0 : Int) ≠ 0) (fun h => h rfl), if_pos (c := n2 ≠ 0) z2])
   have q2 := (kneR z2).2
   have q2b := (kneR z2).1
   clear z2 ET C3 sok pk
   rcases sk with ⟨a1, a2⟩ | ⟨a1, a2, a3, a4⟩
   all_goals
     clear HE
     go_enter Tryz.func41, Tryz.ntmps41
     go_wp2_with (first | (go_at_call 66; (with_reducible refine (C0.out _).mono ?_); rintro e w5 ⟨rfl, hb7⟩; have HB8 := Lib.hid (HB7.out.trans (hb7.mono HB7.out.size)); clear HB7 hb7 C0 d0 d1 d2 d3 d4 d5 d6 d7 d8 d9 d10 d11 d12 d13 d14 d15; have HB7 := HB8; clear HB8; obtain ⟨d0, d1, d2, d3, d4, d5, d6, d7, d8, d9, d10, d11, d12, d13, d14, d15⟩ := SB.out _ HB7.out) | (go_at_call 66; (with_reducible refine (C1.out _).mono ?_); rintro e w6 ⟨rfl, hb7⟩; have HB8 := Lib.hid (HB7.out.trans (hb7.mono HB7.out.size)); clear HB7 hb7 C1 d0 d1 d2 d3 d4 d5 d6 d7 d8 d9 d10 d11 d12 d13 d14 d15; have HB7 := HB8; clear HB8; obtain ⟨d0, d1, d2, d3, d4, d5, d6, d7, d8, d9, d10, d11, d12, d13, d14, d15⟩ := SB.out _ HB7.out) | (go_at_call 66; (with_reducible refine (C2.out _).mono ?_); rintro e w7 ⟨rfl, hb7⟩; have HB8 := Lib.hid (HB7.out.trans (hb7.mono HB7.out.size)); clear HB7 hb7 C2 d0 d1 d2 d3 d4 d5 d6 d7 d8 d9 d10 d11 d12 d13 d14 d15; have HB7 := HB8; clear HB8; obtain ⟨d0, d1, d2, d3, d4, d5, d6, d7, d8, d9, d10, d11, d12, d13, d14, d15⟩ := SB.out _ HB7.out))
     go_ret
     exact ⟨ret_i64 HE2.out.symm, HB0.out.trans (HB7.out.mono HB0.out.size)⟩
 subst z2
 by_cases gz : q.g = noTerm
 case pos =>
   as_aux_lemma =>
   have HE2 : Hid (quadN q = 0) := Lib.hid (by rw [HE.out, if_neg (fun h => h sok), if_neg (c := (0 : Int) ≠ 0) (fun h => h rfl), if_neg (c := q.p.kind ≠ 1) (fun h => h pk), if_neg (c := (0 : Int) ≠ 0) (fun h => h rfl), if_neg (c := (0 : Int) ≠ 0) (fun h => h rfl), if_pos gz])
   rw [decide_eq_true gz] at ET
   clear sok pk gz C3
   rcases sk with ⟨a1, a2⟩ | ⟨a1, a2, a3, a4⟩
   all_goals
     clear HE
     go_enter Tryz.func41, Tryz.ntmps41
     go_wp2_with (first | (go_at_call 66; (with_reducible refine (C0.out _).mono ?_); rintro e w5 ⟨rfl, hb7⟩; have HB8 := Lib.hid (HB7.out.trans (hb7.mono HB7.out.size)); clear HB7 hb7 C0 d0 d1 d2 d3 d4 d5 d6 d7 d8 d9 d10 d11 d12 d13 d14 d15; have HB7 := HB8; clear HB8; obtain ⟨d0, d1, d2, d3, d4, d5, d6, d7, d8, d9, d10, d11, d12, d13, d14, d15⟩ := SB.out _ HB7.out) | (go_at_call 66; (with_reducible refine (C1.out _).mono ?_); rintro e w6 ⟨rfl, hb7⟩; have HB8 := Lib.hid (HB7.out.trans (hb7.mono HB7.out.size)); clear HB7 hb7 C1 d0 d1 d2 d3 d4 d5 d6 d7 d8 d9 d10 d11 d12 d13 d14 d15; have HB7 := HB8; clear HB8; obtain ⟨d0, d1, d2, d3, d4, d5, d6, d7, d8, d9, d10, d11, d12, d13, d14, d15⟩ := SB.out _ HB7.out) | (go_at_call 66; (with_reducible refine (C2.out _).mono ?_); rintro e w7 ⟨rfl, hb7⟩; have HB8 := Lib.hid (HB7.out.trans (hb7.mono HB7.out.size)); clear HB7 hb7 C2 d0 d1 d2 d3 d4 d5 d6 d7 d8 d9 d10 d11 d12 d13 d14 d15; have HB7 := HB8; clear HB8; obtain ⟨d0, d1, d2, d3, d4, d5, d6, d7, d8, d9, d10, d11, d12, d13, d14, d15⟩ := SB.out _ HB7.out))
     go_ret
     exact ⟨ret_i64 HE2.out.symm, HB0.out.trans (HB7.out.mono HB0.out.size)⟩
 by_cases gk : q.g.kind = 1 \/ q.g.kind = 2
 case neg =>
   as_aux_lemma =>
   have HE2 : Hid (quadN q = 70) := Lib.hid (by rw [HE.out, if_neg (fun h => h sok), if_neg (c := (0 : Int) ≠ 0) (fun h => h rfl), if_neg (c := q.p.kind ≠ 1) (fun h => h pk), if_neg (c := (0 : Int) ≠ 0) (fun h => h rfl), if_neg (c := (0 : Int) ≠ 0) (fun h => h rfl), if_neg gz, if_pos gk])
   rw [decide_eq_false gz] at ET
   obtain ⟨g1, g2⟩ := kneR (fun h => gk (.inl h) : q.g.kind ≠ 1)
   obtain ⟨g3, g4⟩ := kneR (fun h => gk (.inr h) : q.g.kind ≠ 2)
   clear sok pk gz gk C3
   rcases sk with ⟨a1, a2⟩ | ⟨a1, a2, a3, a4⟩
   all_goals
     clear HE
     go_enter Tryz.func41, Tryz.ntmps41
     go_wp2_with (first | (go_at_call 66; (with_reducible refine (C0.out _).mono ?_); rintro e w5 ⟨rfl, hb7⟩; have HB8 := Lib.hid (HB7.out.trans (hb7.mono HB7.out.size)); clear HB7 hb7 C0 d0 d1 d2 d3 d4 d5 d6 d7 d8 d9 d10 d11 d12 d13 d14 d15; have HB7 := HB8; clear HB8; obtain ⟨d0, d1, d2, d3, d4, d5, d6, d7, d8, d9, d10, d11, d12, d13, d14, d15⟩ := SB.out _ HB7.out) | (go_at_call 66; (with_reducible refine (C1.out _).mono ?_); rintro e w6 ⟨rfl, hb7⟩; have HB8 := Lib.hid (HB7.out.trans (hb7.mono HB7.out.size)); clear HB7 hb7 C1 d0 d1 d2 d3 d4 d5 d6 d7 d8 d9 d10 d11 d12 d13 d14 d15; have HB7 := HB8; clear HB8; obtain ⟨d0, d1, d2, d3, d4, d5, d6, d7, d8, d9, d10, d11, d12, d13, d14, d15⟩ := SB.out _ HB7.out) | (go_at_call 66; (with_reducible refine (C2.out _).mono ?_); rintro e w7 ⟨rfl, hb7⟩; have HB8 := Lib.hid (HB7.out.trans (hb7.mono HB7.out.size)); clear HB7 hb7 C2 d0 d1 d2 d3 d4 d5 d6 d7 d8 d9 d10 d11 d12 d13 d14 d15; have HB7 := HB8; clear HB8; obtain ⟨d0, d1, d2, d3, d4, d5, d6, d7, d8, d9, d10, d11, d12, d13, d14, d15⟩ := SB.out _ HB7.out))
     go_ret
     exact ⟨ret_i64 HE2.out.symm, HB0.out.trans (HB7.out.mono HB0.out.size)⟩
 have HE2 : Hid (quadN q = n3) := Lib.hid (by rw [HE.out, if_neg (fun h => h sok), if_neg (c := (0 : Int) ≠ 0) (fun h => h rfl), if_neg (c := q.p.kind ≠ 1) (fun h => h pk), if_neg (c := (0 : Int) ≠ 0) (fun h => h rfl), if_neg (c := (0 : Int) ≠ 0) (fun h => h rfl), if_neg gz, if_neg (fun h => h gk)])
 rw [decide_eq_false gz] at ET
 have gkk : ((q.g.kind == 1) = true /\ (q.g.kind != 1) = false) \/ ((q.g.kind == 1) = false /\ (q.g.kind != 1) = true /\ (q.g.kind == 2) = true /\ (q.g.kind != 2) = false) := by
   by_cases h1 : q.g.kind = 1
   · exact .inl (keqR h1)
   · exact .inr ⟨(kneR h1).1, (kneR h1).2, keqR (gk.resolve_left h1)⟩
 clear sok pk gz gk HE
 have HE : Hid True := Lib.hid trivial
 rcases sk with ⟨a1, a2⟩ | ⟨a1, a2, a3, a4⟩ <;> rcases gkk with ⟨g1, g2⟩ | ⟨g1, g2, g3, g4⟩
 all_goals
   as_aux_lemma =>
   clear HE
   go_enter Tryz.func41, Tryz.ntmps41
   go_wp2_with (first | (go_at_call 66; (with_reducible refine (C0.out _).mono ?_); rintro e w5 ⟨rfl, hb7⟩; have HB8 := Lib.hid (HB7.out.trans (hb7.mono HB7.out.size)); clear HB7 hb7 C0 d0 d1 d2 d3 d4 d5 d6 d7 d8 d9 d10 d11 d12 d13 d14 d15; have HB7 := HB8; clear HB8; obtain ⟨d0, d1, d2, d3, d4, d5, d6, d7, d8, d9, d10, d11, d12, d13, d14, d15⟩ := SB.out _ HB7.out) | (go_at_call 66; (with_reducible refine (C1.out _).mono ?_); rintro e w6 ⟨rfl, hb7⟩; have HB8 := Lib.hid (HB7.out.trans (hb7.mono HB7.out.size)); clear HB7 hb7 C1 d0 d1 d2 d3 d4 d5 d6 d7 d8 d9 d10 d11 d12 d13 d14 d15; have HB7 := HB8; clear HB8; obtain ⟨d0, d1, d2, d3, d4, d5, d6, d7, d8, d9, d10, d11, d12, d13, d14, d15⟩ := SB.out _ HB7.out) | (go_at_call 66; (with_reducible refine (C2.out _).mono ?_); rintro e w7 ⟨rfl, hb7⟩; have HB8 := Lib.hid (HB7.out.trans (hb7.mono HB7.out.size)); clear HB7 hb7 C2 d0 d1 d2 d3 d4 d5 d6 d7 d8 d9 d10 d11 d12 d13 d14 d15; have HB7 := HB8; clear HB8; obtain ⟨d0, d1, d2, d3, d4, d5, d6, d7, d8, d9, d10, d11, d12, d13, d14, d15⟩ := SB.out _ HB7.out) | (go_at_call 66; (with_reducible refine (C3.out _).mono ?_); rintro e w8 ⟨rfl, hb7⟩; have HB8 := Lib.hid (HB7.out.trans (hb7.mono HB7.out.size)); clear HB7 hb7 C3 d0 d1 d2 d3 d4 d5 d6 d7 d8 d9 d10 d11 d12 d13 d14 d15; have HB7 := HB8; clear HB8; obtain ⟨d0, d1, d2, d3, d4, d5, d6, d7, d8, d9, d10, d11, d12, d13, d14, d15⟩ := SB.out _ HB7.out))
   go_ret
   exact ⟨ret_i64 HE2.out.symm, HB0.out.trans (HB7.out.mono HB0.out.size)⟩
end Go.Proofs.YtdegonmkikfghaaGreatDoor
