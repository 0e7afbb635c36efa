/-
  vocab.Read: a contract. By an AI agent.
-/
import Derived.Test.YtfocpjcbfbbpgaaGreatDoorZEntryW
namespace Go.Proofs.YtfocpjcbfbbpgaaGreatDoor
open Go.RowKit
set_option maxRecDepth 1000000
structure Blk4 (u : World) (g : Nat) (a b c d : Value) : Prop where
 c0 : u.cell? ⟨g, 0, none⟩ = some a
 c1 : u.cell? ⟨g, 1, none⟩ = some b
 c2 : u.cell? ⟨g, 2, none⟩ = some c
 c3 : u.cell? ⟨g, 3, none⟩ = some d
 f0 : u.frozen? ⟨g, 0, none⟩ = false
 f1 : u.frozen? ⟨g, 1, none⟩ = false
 f2 : u.frozen? ⟨g, 2, none⟩ = false
 f3 : u.frozen? ⟨g, 3, none⟩ = false
 lt : g < u.heap.size
theorem Blk4.of {u : World} {g : Nat} {a b c d : Value} {T : TypeId} (h : u.heap[g]? = some (.cells #[a, b, c, d] T (0, 0))) : Blk4 u g a b c d := by
 have hl := (Array.getElem?_eq_some_iff.1 h).1
 refine ⟨?_, ?_, ?_, ?_, ?_, ?_, ?_, ?_, hl⟩ <;> simp [World.cell?, World.frozen?, h]
theorem Blk4.below {u u' : World} {g : Nat} {a b c d : Value} (h : Blk4 u g a b c d) (hb : Below u.heap.size u u') : Blk4 u' g a b c d := by
 have e := hb.block g h.lt
 have ec : ∀ j, u'.cell? ⟨g, j, none⟩ = u.cell? ⟨g, j, none⟩ := fun j => World.cell?_of_block (a := ⟨g, j, none⟩) e
 have ef : ∀ j, u'.frozen? ⟨g, j, none⟩ = u.frozen? ⟨g, j, none⟩ := fun j => World.frozen?_of_block (a := ⟨g, j, none⟩) e
 exact ⟨by rw [ec]; exact h.c0, by rw [ec]; exact h.c1, by rw [ec]; exact h.c2, by rw [ec]; exact h.c3, by rw [ef]; exact h.f0, by rw [ef]; exact h.f1, by rw [ef]; exact h.f2, by rw [ef]; exact h.f3, Nat.lt_of_lt_of_le h.lt hb.size⟩
theorem below_set4 {n g : Nat} {w u : World} {a b c d : Value} (h : Below n w u) (hg : n <= g) : Below n w ((((u.setCell ⟨g, 0, none⟩ a).setCell ⟨g, 1, none⟩ b).setCell ⟨g, 2, none⟩ c).setCell ⟨g, 3, none⟩ d) :=
 (((h.setCell (p := ⟨g, 0, none⟩) hg a).setCell (p := ⟨g, 1, none⟩) hg b).setCell (p := ⟨g, 2, none⟩) hg c).setCell (p := ⟨g, 3, none⟩) hg d
theorem take_cases (s : List UInt8) (t : TermL) : ∃ en ec, entryN t = (en, ec) /\ ((ec ≠ 0 /\ takeN s (some t) = (noTerm, 170)) \/ (ec = 0 /\ en = s /\ takeN s (some t) = (t, 0)) \/ (ec = 0 /\ en ≠ s /\ takeN s (some t) = (noTerm, 170))) := by
 by_cases h : termN t = 0
 · by_cases hs : entryS t = s
   · exact ⟨entryS t, 0, by unfold entryN; rw [if_neg (by simp [h])], .inr (.inl ⟨rfl, hs, if_pos ⟨h, hs⟩⟩)⟩
   · exact ⟨entryS t, 0, by unfold entryN; rw [if_neg (by simp [h])], .inr (.inr ⟨rfl, hs, if_neg (fun x => hs x.2)⟩)⟩
 · exact ⟨[], termN t, by unfold entryN; rw [if_pos h], .inl ⟨h, if_neg (fun x => h x.1)⟩⟩
theorem cut_len {s o a b : List UInt8} {f : Bool} (h : Lib.cut s o = (a, b, f)) : a.length <= s.length /\ b.length <= s.length := by
 unfold Lib.cut at h
 split at h <;> (cases h; refine ⟨?_, ?_⟩ <;> simp <;> omega)
theorem unrep_len (l : List UInt8) : (Lib.replaceAll l [0, 1] [0]).length <= l.length := by
 rw [replaceAll_K (by simp)]
 suffices h : ∀ (k : Nat) (l : List UInt8), l.length <= k -> (Lib.replaceK [0, 1] [0] (Lib.count l [0, 1]) l).length <= l.length from h l.length l (Nat.le_refl _)
 intro k
 induction k with
 | zero =>
   intro l hl
   obtain rfl := List.eq_nil_of_length_eq_zero (Nat.le_zero.1 hl)
   exact Nat.le_refl _
 | succ k ih =>
   intro l hl
   cases hp : [(0 : UInt8), 1].isPrefixOf l with
   | true =>
     rw [repK_hit (by simp) hp]
     have h2 : 2 <= l.length := (List.isPrefixOf_iff_prefix.1 hp).length_le
     have := ih (l.drop 2) (by simp; omega)
     simp at this ⊢
     omega
   | false =>
     cases l with
     | nil => exact Nat.le_refl _
     | cons c r =>
       rw [repK_pass (by simp) hp]
       have := ih r (by simp at hl; omega)
       simp
       exact this
theorem Blk4.set3 {u : World} {g : Nat} {a b c d b' c' d' : Value} {T : TypeId} (h : u.heap[g]? = some (.cells #[a, b, c, d] T (0, 0))) : Blk4 (((u.setCell ⟨g, 1, none⟩ b').setCell ⟨g, 2, none⟩ c').setCell ⟨g, 3, none⟩ d') g a b' c' d' :=
 Blk4.of (heap_setCell_same _ g 3 _ T d' (heap_setCell_same _ g 2 _ T c' (heap_setCell_same u g 1 _ T b' h)))
theorem Blk4.other {u : World} {g g' j : Nat} {a b c d v : Value} (h : Blk4 u g a b c d) (hne : g ≠ g') : Blk4 (u.setCell ⟨g', j, none⟩ v) g a b c d := by
 have e := RowKit.Below.heap_setCell u ⟨g', j, none⟩ v g hne
 have ec : ∀ i, (u.setCell ⟨g', j, none⟩ v).cell? ⟨g, i, none⟩ = u.cell? ⟨g, i, none⟩ := fun i => World.cell?_of_block (a := ⟨g, i, none⟩) e
 have ef : ∀ i, (u.setCell ⟨g', j, none⟩ v).frozen? ⟨g, i, none⟩ = u.frozen? ⟨g, i, none⟩ := fun i => World.frozen?_of_block (a := ⟨g, i, none⟩) e
 exact ⟨by rw [ec]; exact h.c0, by rw [ec]; exact h.c1, by rw [ec]; exact h.c2, by rw [ec]; exact h.c3, by rw [ef]; exact h.f0, by rw [ef]; exact h.f1, by rw [ef]; exact h.f2, by rw [ef]; exact h.f3, by simpa using h.lt⟩
theorem two4 (w : World) (a b c d : Value) (T : TypeId) : Blk4 ((w.alloc (.cells #[.int .i64 0, .string ⟨#[]⟩, .string ⟨#[]⟩, .string ⟨#[]⟩] T)).alloc (.cells #[a, b, c, d] T)) w.heap.size (.int .i64 0) (.string ⟨#[]⟩) (.string ⟨#[]⟩) (.string ⟨#[]⟩) /\ Blk4 ((w.alloc (.cells #[.int .i64 0, .string ⟨#[]⟩, .string ⟨#[]⟩, .string ⟨#[]⟩] T)).alloc (.cells #[a, b, c, d] T)) (w.heap.size + 1) a b c d /\ Below w.heap.size w ((w.alloc (.cells #[.int .i64 0, .string ⟨#[]⟩, .string ⟨#[]⟩, .string ⟨#[]⟩] T)).alloc (.cells #[a, b, c, d] T)) := by
 have h1 : ((w.alloc (.cells #[.int .i64 0, .string ⟨#[]⟩, .string ⟨#[]⟩, .string ⟨#[]⟩] T)).alloc (.cells #[a, b, c, d] T)).heap[w.heap.size]? = some (.cells #[.int .i64 0, .string ⟨#[]⟩, .string ⟨#[]⟩, .string ⟨#[]⟩] T (0, 0)) := (Below.heap_alloc _ _ _ (by simp)).trans (World.alloc_heap_new w _)
 have h2 := World.alloc_heap_new (w.alloc (.cells #[.int .i64 0, .string ⟨#[]⟩, .string ⟨#[]⟩, .string ⟨#[]⟩] T)) (.cells #[a, b, c, d] T)
 rw [World.size_alloc] at h2
 exact ⟨Blk4.of h1, Blk4.of h2, ((Below.refl _ w).alloc (Nat.le_refl _) _).alloc (by simp) _⟩
set_option maxHeartbeats 4000000 in
theorem vocabRead_l (k : Int) (s : List UInt8) (w : World) (hT : TabAt w) (hM : MaxAt w) (hs : s.length <= 1048576) :
   Calls Tryz.prog 8 #[.int .i64 k, .string (B s)] w fun e w' => e = .returned (.tuple #[termV (readN k s).1, .int .i64 (readN k s).2]) /\ Below w.heap.size w w' := by
 have EN := Lib.hid (fun (t : TermL) (u : World) (hb : Below w.heap.size w u) (h1 : t.text.length <= 1048576) (h2 : t.type.length <= 1048576) (h3 : t.lang.length <= 1048576) => vocabEntry_l t u (hT.below hb) (hM.below hb) h1 h2 h3)
 have CU := Lib.hid (fun (l o : List UInt8) (u : World) (hb : Below w.heap.size w u) (hl : l.length <= 4194304) => cut_l l o u (hM.below hb) hl)
 have RP := Lib.hid (fun (l : List UInt8) (u : World) (hb : Below w.heap.size w u) (hl : l.length <= 4194304) => replace_l l [0, 1] [0] u (hM.below hb) hl (by decide) (by decide))
 obtain ⟨G4, G6, hb0⟩ := two4 w (.int .i64 k) (.string (B s)) (.string ⟨#[]⟩) (.string ⟨#[]⟩) 23
 have HB0 := Lib.hid hb0
 clear hT hM hb0
 by_cases h12 : k = 1 \/ k = 2
 · have HRD : Hid (readN k s = takeN s (some ⟨k, s, [], []⟩)) := Lib.hid (by unfold readN; rw [if_pos h12])
   have htx : s.length <= 1048576 := hs
   have hty : ([] : List UInt8).length <= 1048576 := by simp
   have hla : ([] : List UInt8).length <= 1048576 := by simp
   rcases h12 with rfl | rfl
   · go_enter Tryz.func8, Tryz.ntmps8
     go_upto_region 12 with fail
     generalize hU : (w.alloc (.cells #[.int .i64 0, .string ⟨#[]⟩, .string ⟨#[]⟩, .string ⟨#[]⟩] 23)).alloc (.cells #[.int .i64 1, .string (B s), .string ⟨#[]⟩, .string ⟨#[]⟩] 23) = U at G4 G6 HB0 ⊢
     clear hU
     have HBU := HB0
     obtain ⟨en, ec, hen, hcs⟩ := take_cases s ⟨1, s, [], []⟩
     have E0 := EN.out ⟨1, s, [], []⟩ U HBU.out htx hty hla
     rw [hen] at E0
     have E1 : Hid (Calls Tryz.prog 6 #[.agg #[.int .i64 1, .string (B s), .string ⟨#[]⟩, .string ⟨#[]⟩]] U fun e w' => e = .returned (.tuple #[.string (B en), .int .i64 ec]) /\ Below U.heap.size U w') := Lib.hid E0
     clear hen E0 EN CU RP
     have y0 := G6.c0
     have y1 := G6.c1
     have y2 := G6.c2
     have y3 := G6.c3
     rcases hcs with ⟨hc, htk⟩ | ⟨hc, hes, htk⟩ | ⟨hc, hes, htk⟩
     · have q1 : (ec != 0) = true := bne_iff_ne.2 hc
       have HTK := Lib.hid htk
       clear hc htk
       go_wp2_with (go_at_call 6; (with_reducible refine E1.out.mono ?_); rintro e6 w6 ⟨rfl, hb6⟩; have B4 := G4.below hb6; have B6 := G6.below hb6; have HB6 := Lib.hid (HBU.out.trans (hb6.mono HBU.out.size)); have x0 := B4.c0; have x1 := B4.c1; have x2 := B4.c2; have x3 := B4.c3; have f0 := B4.f0; have f1 := B4.f1; have f2 := B4.f2; have f3 := B4.f3; have l4 := B4.lt; clear y0 y1 y2 y3; have y0 := B6.c0; have y1 := B6.c1; have y2 := B6.c2; have y3 := B6.c3; have l6 := B6.lt; clear hb6 B4 B6)
       refine bodyPost_ret (v := .tuple #[.agg #[.int .i64 0, .string ⟨#[]⟩, .string ⟨#[]⟩, .string ⟨#[]⟩], .int .i64 170]) (by simp [results, Tryz.results8, go_sem, x0, x1, x2, x3]) rfl ?_
       exact ⟨by rw [HRD.out, HTK.out]; rfl, below_set4 HB6.out (Nat.le_refl _)⟩
     · subst hc
       rw [hes] at E1
       clear hes
       have HTK := Lib.hid htk
       clear htk
       go_wp2_with (go_at_call 6; (with_reducible refine E1.out.mono ?_); rintro e6 w6 ⟨rfl, hb6⟩; have B4 := G4.below hb6; have B6 := G6.below hb6; have HB6 := Lib.hid (HBU.out.trans (hb6.mono HBU.out.size)); have x0 := B4.c0; have x1 := B4.c1; have x2 := B4.c2; have x3 := B4.c3; have f0 := B4.f0; have f1 := B4.f1; have f2 := B4.f2; have f3 := B4.f3; have l4 := B4.lt; clear y0 y1 y2 y3; have y0 := B6.c0; have y1 := B6.c1; have y2 := B6.c2; have y3 := B6.c3; have l6 := B6.lt; clear hb6 B4 B6)
       refine bodyPost_ret (v := .tuple #[.agg #[.int .i64 1, .string (B s), .string ⟨#[]⟩, .string ⟨#[]⟩], .int .i64 0]) (by simp [results, Tryz.results8, go_sem, x0, x1, x2, x3]) rfl ?_
       exact ⟨by rw [HRD.out, HTK.out]; rfl, below_set4 HB6.out (Nat.le_refl _)⟩
     · subst hc
       have q2 : (en == s) = false := beq_eq_false_iff_ne.2 hes
       have HTK := Lib.hid htk
       clear hes htk
       go_wp2_with (go_at_call 6; (with_reducible refine E1.out.mono ?_); rintro e6 w6 ⟨rfl, hb6⟩; have B4 := G4.below hb6; have B6 := G6.below hb6; have HB6 := Lib.hid (HBU.out.trans (hb6.mono HBU.out.size)); have x0 := B4.c0; have x1 := B4.c1; have x2 := B4.c2; have x3 := B4.c3; have f0 := B4.f0; have f1 := B4.f1; have f2 := B4.f2; have f3 := B4.f3; have l4 := B4.lt; clear y0 y1 y2 y3; have y0 := B6.c0; have y1 := B6.c1; have y2 := B6.c2; have y3 := B6.c3; have l6 := B6.lt; clear hb6 B4 B6)
       refine bodyPost_ret (v := .tuple #[.agg #[.int .i64 0, .string ⟨#[]⟩, .string ⟨#[]⟩, .string ⟨#[]⟩], .int .i64 170]) (by simp [results, Tryz.results8, go_sem, x0, x1, x2, x3]) rfl ?_
       exact ⟨by rw [HRD.out, HTK.out]; rfl, below_set4 HB6.out (Nat.le_refl _)⟩
   · go_enter Tryz.func8, Tryz.ntmps8
     go_upto_region 12 with fail
     generalize hU : (w.alloc (.cells #[.int .i64 0, .string ⟨#[]⟩, .string ⟨#[]⟩, .string ⟨#[]⟩] 23)).alloc (.cells #[.int .i64 2, .string (B s), .string ⟨#[]⟩, .string ⟨#[]⟩] 23) = U at G4 G6 HB0 ⊢
     clear hU
     have HBU := HB0
     obtain ⟨en, ec, hen, hcs⟩ := take_cases s ⟨2, s, [], []⟩
     have E0 := EN.out ⟨2, s, [], []⟩ U HBU.out htx hty hla
     rw [hen] at E0
     have E1 : Hid (Calls Tryz.prog 6 #[.agg #[.int .i64 2, .string (B s), .string ⟨#[]⟩, .string ⟨#[]⟩]] U fun e w' => e = .returned (.tuple #[.string (B en), .int .i64 ec]) /\ Below U.heap.size U w') := Lib.hid E0
     clear hen E0 EN CU RP
     have y0 := G6.c0
     have y1 := G6.c1
     have y2 := G6.c2
     have y3 := G6.c3
     rcases hcs with ⟨hc, htk⟩ | ⟨hc, hes, htk⟩ | ⟨hc, hes, htk⟩
     · have q1 : (ec != 0) = true := bne_iff_ne.2 hc
       have HTK := Lib.hid htk
       clear hc htk
       go_wp2_with (go_at_call 6; (with_reducible refine E1.out.mono ?_); rintro e6 w6 ⟨rfl, hb6⟩; have B4 := G4.below hb6; have B6 := G6.below hb6; have HB6 := Lib.hid (HBU.out.trans (hb6.mono HBU.out.size)); have x0 := B4.c0; have x1 := B4.c1; have x2 := B4.c2; have x3 := B4.c3; have f0 := B4.f0; have f1 := B4.f1; have f2 := B4.f2; have f3 := B4.f3; have l4 := B4.lt; clear y0 y1 y2 y3; have y0 := B6.c0; have y1 := B6.c1; have y2 := B6.c2; have y3 := B6.c3; have l6 := B6.lt; clear hb6 B4 B6)
       refine bodyPost_ret (v := .tuple #[.agg #[.int .i64 0, .string ⟨#[]⟩, .string ⟨#[]⟩, .string ⟨#[]⟩], .int .i64 170]) (by simp [results, Tryz.results8, go_sem, x0, x1, x2, x3]) rfl ?_
       exact ⟨by rw [HRD.out, HTK.out]; rfl, below_set4 HB6.out (Nat.le_refl _)⟩
     · subst hc
       rw [hes] at E1
       clear hes
       have HTK := Lib.hid htk
       clear htk
       go_wp2_with (go_at_call 6; (with_reducible refine E1.out.mono ?_); rintro e6 w6 ⟨rfl, hb6⟩; have B4 := G4.below hb6; have B6 := G6.below hb6; have HB6 := Lib.hid (HBU.out.trans (hb6.mono HBU.out.size)); have x0 := B4.c0; have x1 := B4.c1; have x2 := B4.c2; have x3 := B4.c3; have f0 := B4.f0; have f1 := B4.f1; have f2 := B4.f2; have f3 := B4.f3; have l4 := B4.lt; clear y0 y1 y2 y3; have y0 := B6.c0; have y1 := B6.c1; have y2 := B6.c2; have y3 := B6.c3; have l6 := B6.lt; clear hb6 B4 B6)
       refine bodyPost_ret (v := .tuple #[.agg #[.int .i64 2, .string (B s), .string ⟨#[]⟩, .string ⟨#[]⟩], .int .i64 0]) (by simp [results, Tryz.results8, go_sem, x0, x1, x2, x3]) rfl ?_
       exact ⟨by rw [HRD.out, HTK.out]; rfl, below_set4 HB6.out (Nat.le_refl _)⟩
     · subst hc
       have q2 : (en == s) = false := beq_eq_false_iff_ne.2 hes
       have HTK := Lib.hid htk
       clear hes htk
       go_wp2_with (go_at_call 6; (with_reducible refine E1.out.mono ?_); rintro e6 w6 ⟨rfl, hb6⟩; have B4 := G4.below hb6; have B6 := G6.below hb6; have HB6 := Lib.hid (HBU.out.trans (hb6.mono HBU.out.size)); have x0 := B4.c0; have x1 := B4.c1; have x2 := B4.c2; have x3 := B4.c3; have f0 := B4.f0; have f1 := B4.f1; have f2 := B4.f2; have f3 := B4.f3; have l4 := B4.lt; clear y0 y1 y2 y3; have y0 := B6.c0; have y1 := B6.c1; have y2 := B6.c2; have y3 := B6.c3; have l6 := B6.lt; clear hb6 B4 B6)
       refine bodyPost_ret (v := .tuple #[.agg #[.int .i64 0, .string ⟨#[]⟩, .string ⟨#[]⟩, .string ⟨#[]⟩], .int .i64 170]) (by simp [results, Tryz.results8, go_sem, x0, x1, x2, x3]) rfl ?_
       exact ⟨by rw [HRD.out, HTK.out]; rfl, below_set4 HB6.out (Nat.le_refl _)⟩
 · by_cases h3 : k = 3
   · subst h3
     obtain ⟨tx0, rest, ok, hc1⟩ : ∃ a b c, Lib.cut s [0, 0] = (a, b, c) := ⟨_, _, _, rfl⟩
     obtain ⟨ty, la, fi, hc2⟩ : ∃ a b c, Lib.cut rest [0] = (a, b, c) := ⟨_, _, _, rfl⟩
     have l1 := cut_len hc1
     have l2 := cut_len hc2
     have C1 : Hid (∀ u, Below w.heap.size w u -> Calls Tryz.prog 29 #[.string (B s), .string ⟨#[0, 0]⟩] u fun e w' => e = .returned (.tuple #[.string (B tx0), .string (B rest), .bool ok]) /\ Below u.heap.size u w') := Lib.hid (fun u hb => by
       have h := CU.out s [0, 0] u hb (by omega)
       rw [hc1] at h
       exact h)
     have C2 : Hid (∀ u, Below w.heap.size w u -> Calls Tryz.prog 29 #[.string (B rest), .string ⟨#[0]⟩] u fun e w' => e = .returned (.tuple #[.string (B ty), .string (B la), .bool fi]) /\ Below u.heap.size u w') := Lib.hid (fun u hb => by
       have h := CU.out rest [0] u hb (by omega)
       rw [hc2] at h
       exact h)
     have HCP : Hid (candP s = if ok = true /\ fi = true then some ⟨3, Lib.replaceAll tx0 [0, 1] [0], ty, la⟩ else none) := Lib.hid (by unfold candP; rw [hc1]; simp only [hc2])
     have HRD3 : Hid (readN 3 s = takeN s (candP s)) := Lib.hid (by unfold readN; rw [if_neg (by decide), if_pos rfl])
     obtain ⟨U0, hU0⟩ : ∃ U0, (w.alloc (.cells #[.int .i64 0, .string ⟨#[]⟩, .string ⟨#[]⟩, .string ⟨#[]⟩] 23)).alloc (.cells #[.int .i64 3, .string (B s), .string ⟨#[]⟩, .string ⟨#[]⟩] 23) = U0 := ⟨_, rfl⟩
     have hh6 : U0.heap[w.heap.size + 1]? = some (.cells #[.int .i64 3, .string (B s), .string ⟨#[]⟩, .string ⟨#[]⟩] 23 (0, 0)) := by
       have h2 := World.alloc_heap_new (w.alloc (.cells #[.int .i64 0, .string ⟨#[]⟩, .string ⟨#[]⟩, .string ⟨#[]⟩] 23)) (.cells #[.int .i64 3, .string (B s), .string ⟨#[]⟩, .string ⟨#[]⟩] 23)
       rw [World.size_alloc, hU0] at h2
       exact h2
     rw [hU0] at G4 G6 HB0
     have HH6 := Lib.hid hh6
     have hz6 : w.heap.size + 1 < U0.heap.size := (Array.getElem?_eq_some_iff.1 hh6).1
     clear hc1 hc2 hh6
     by_cases hof : ok = true /\ fi = true
     · obtain ⟨rfl, rfl⟩ := hof
       have hur := unrep_len tx0
       obtain ⟨rt, hrt⟩ : ∃ rt, Lib.replaceAll tx0 [0, 1] [0] = rt := ⟨_, rfl⟩
       have HRD : Hid (readN 3 s = takeN s (some ⟨3, rt, ty, la⟩)) := Lib.hid (by rw [HRD3.out, HCP.out, if_pos ⟨rfl, rfl⟩, hrt])
       have R1 : Hid (∀ u, Below w.heap.size w u -> Calls Tryz.prog 27 #[.string (B tx0), .string ⟨#[0, 1]⟩, .string ⟨#[0]⟩] u fun e w' => e = .returned (.string (B rt)) /\ Below u.heap.size u w') := Lib.hid (fun u hb => by
         have h := RP.out tx0 u hb (by omega)
         rw [hrt] at h
         exact h)
       rw [hrt] at hur
       have htx : rt.length <= 1048576 := by omega
       have hty : ty.length <= 1048576 := by omega
       have hla : la.length <= 1048576 := by omega
       have HU0 := Lib.hid hU0
       clear hrt hur hU0 HRD3 HCP
       go_enter Tryz.func8, Tryz.ntmps8
       go_upto_region 12 with (first
         | (go_at_call 29; rw [HU0.out]; (with_reducible refine (C1.out _ HB0.out).mono ?_); rintro e1 w1 ⟨rfl, hb1⟩; have HB1 := Lib.hid (HB0.out.trans (hb1.mono HB0.out.size)); have HX1 := Lib.hid hb1; clear hb1)
         | (go_at_call 29; (with_reducible refine (C2.out _ HB1.out).mono ?_); rintro e2 w2 ⟨rfl, hb2⟩; have HB2 := Lib.hid (HB1.out.trans (hb2.mono HB1.out.size)); have HX2 := Lib.hid (HX1.out.trans (hb2.mono HX1.out.size)); clear hb2)
         | (go_at_call 27; (with_reducible refine (R1.out _ HB2.out).mono ?_); rintro e3 w3 ⟨rfl, hb3⟩; have HB3 := Lib.hid (HB2.out.trans (hb3.mono HB2.out.size)); have HX3 := Lib.hid (HX2.out.trans (hb3.mono HX2.out.size)); have P6 := G6.below HX3.out; have u1 := P6.c1; have u2 := P6.c2; have u3 := P6.c3; have v1 := P6.f1; have v2 := P6.f2; have v3 := P6.f3; have l6 := P6.lt; clear hb3 P6))
       have hl4 := G4.lt
       have hh3 := (HX3.out.block _ hz6).trans HH6.out
       have G6 := Blk4.set3 (b' := .string (B rt)) (c' := .string (B ty)) (d' := .string (B la)) hh3
       have G4 := (((G4.below HX3.out).other (g' := w.heap.size + 1) (j := 1) (v := .string (B rt)) (by omega)).other (g' := w.heap.size + 1) (j := 2) (v := .string (B ty)) (by omega)).other (g' := w.heap.size + 1) (j := 3) (v := .string (B la)) (by omega)
       have HBU : Hid (Below w.heap.size w (((w3.setCell ⟨w.heap.size + 1, 1, none⟩ (.string (B rt))).setCell ⟨w.heap.size + 1, 2, none⟩ (.string (B ty))).setCell ⟨w.heap.size + 1, 3, none⟩ (.string (B la)))) := Lib.hid (((HB3.out.setCell (p := ⟨w.heap.size + 1, 1, none⟩) (Nat.le_succ _) _).setCell (p := ⟨w.heap.size + 1, 2, none⟩) (Nat.le_succ _) _).setCell (p := ⟨w.heap.size + 1, 3, none⟩) (Nat.le_succ _) _)
       clear u1 u2 u3 v1 v2 v3 l6
       generalize ((w3.setCell ⟨w.heap.size + 1, 1, none⟩ (.string (B rt))).setCell ⟨w.heap.size + 1, 2, none⟩ (.string (B ty))).setCell ⟨w.heap.size + 1, 3, none⟩ (.string (B la)) = U at G4 G6 HBU ⊢
       obtain ⟨en, ec, hen, hcs⟩ := take_cases s ⟨3, rt, ty, la⟩
       have E0 := EN.out ⟨3, rt, ty, la⟩ U HBU.out htx hty hla
       rw [hen] at E0
       have E1 : Hid (Calls Tryz.prog 6 #[.agg #[.int .i64 3, .string (B rt), .string (B ty), .string (B la)]] U fun e w' => e = .returned (.tuple #[.string (B en), .int .i64 ec]) /\ Below U.heap.size U w') := Lib.hid E0
       clear hen E0 EN CU RP
       have y0 := G6.c0
       have y1 := G6.c1
       have y2 := G6.c2
       have y3 := G6.c3
       rcases hcs with ⟨hc, htk⟩ | ⟨hc, hes, htk⟩ | ⟨hc, hes, htk⟩
       · have q1 : (ec != 0) = true := bne_iff_ne.2 hc
         have HTK := Lib.hid htk
         clear hc htk
         go_wp2_with (go_at_call 6; (with_reducible refine E1.out.mono ?_); rintro e6 w6 ⟨rfl, hb6⟩; have B4 := G4.below hb6; have B6 := G6.below hb6; have HB6 := Lib.hid (HBU.out.trans (hb6.mono HBU.out.size)); have x0 := B4.c0; have x1 := B4.c1; have x2 := B4.c2; have x3 := B4.c3; have f0 := B4.f0; have f1 := B4.f1; have f2 := B4.f2; have f3 := B4.f3; have l4 := B4.lt; clear y0 y1 y2 y3; have y0 := B6.c0; have y1 := B6.c1; have y2 := B6.c2; have y3 := B6.c3; have l6 := B6.lt; clear hb6 B4 B6)
         refine bodyPost_ret (v := .tuple #[.agg #[.int .i64 0, .string ⟨#[]⟩, .string ⟨#[]⟩, .string ⟨#[]⟩], .int .i64 170]) (by simp [results, Tryz.results8, go_sem, x0, x1, x2, x3]) rfl ?_
         exact ⟨by rw [HRD.out, HTK.out]; rfl, below_set4 HB6.out (Nat.le_refl _)⟩
       · subst hc
         rw [hes] at E1
         clear hes
         have HTK := Lib.hid htk
         clear htk
         go_wp2_with (go_at_call 6; (with_reducible refine E1.out.mono ?_); rintro e6 w6 ⟨rfl, hb6⟩; have B4 := G4.below hb6; have B6 := G6.below hb6; have HB6 := Lib.hid (HBU.out.trans (hb6.mono HBU.out.size)); have x0 := B4.c0; have x1 := B4.c1; have x2 := B4.c2; have x3 := B4.c3; have f0 := B4.f0; have f1 := B4.f1; have f2 := B4.f2; have f3 := B4.f3; have l4 := B4.lt; clear y0 y1 y2 y3; have y0 := B6.c0; have y1 := B6.c1; have y2 := B6.c2; have y3 := B6.c3; have l6 := B6.lt; clear hb6 B4 B6)
         refine bodyPost_ret (v := .tuple #[.agg #[.int .i64 3, .string (B rt), .string (B ty), .string (B la)], .int .i64 0]) (by simp [results, Tryz.results8, go_sem, x0, x1, x2, x3]) rfl ?_
         exact ⟨by rw [HRD.out, HTK.out]; rfl, below_set4 HB6.out (Nat.le_refl _)⟩
       · subst hc
         have q2 : (en == s) = false := beq_eq_false_iff_ne.2 hes
         have HTK := Lib.hid htk
         clear hes htk
         go_wp2_with (go_at_call 6; (with_reducible refine E1.out.mono ?_); rintro e6 w6 ⟨rfl, hb6⟩; have B4 := G4.below hb6; have B6 := G6.below hb6; have HB6 := Lib.hid (HBU.out.trans (hb6.mono HBU.out.size)); have x0 := B4.c0; have x1 := B4.c1; have x2 := B4.c2; have x3 := B4.c3; have f0 := B4.f0; have f1 := B4.f1; have f2 := B4.f2; have f3 := B4.f3; have l4 := B4.lt; clear y0 y1 y2 y3; have y0 := B6.c0; have y1 := B6.c1; have y2 := B6.c2; have y3 := B6.c3; have l6 := B6.lt; clear hb6 B4 B6)
         refine bodyPost_ret (v := .tuple #[.agg #[.int .i64 0, .string ⟨#[]⟩, .string ⟨#[]⟩, .string ⟨#[]⟩], .int .i64 170]) (by simp [results, Tryz.results8, go_sem, x0, x1, x2, x3]) rfl ?_
         exact ⟨by rw [HRD.out, HTK.out]; rfl, below_set4 HB6.out (Nat.le_refl _)⟩
     · have HRD : Hid (readN 3 s = (noTerm, 170)) := Lib.hid (by rw [HRD3.out, HCP.out, if_neg hof]; rfl)
       have HU0 := Lib.hid hU0
       clear hU0 HRD3 HCP
       cases ok with
       | false =>
         go_enter Tryz.func8, Tryz.ntmps8
         go_wp2_with (first
           | (go_at_call 29; rw [HU0.out]; (with_reducible refine (C1.out _ HB0.out).mono ?_); rintro e1 w1 ⟨rfl, hb1⟩; have HB1 := Lib.hid (HB0.out.trans (hb1.mono HB0.out.size)); have HX1 := Lib.hid hb1; clear hb1)
           | (go_at_call 29; (with_reducible refine (C2.out _ HB1.out).mono ?_); rintro e2 w2 ⟨rfl, hb2⟩; have HB2 := Lib.hid (HB1.out.trans (hb2.mono HB1.out.size)); have B4 := G4.below (HX1.out.trans (hb2.mono HX1.out.size)); have x0 := B4.c0; have x1 := B4.c1; have x2 := B4.c2; have x3 := B4.c3; have f0 := B4.f0; have f1 := B4.f1; have f2 := B4.f2; have f3 := B4.f3; have l4 := B4.lt; clear hb2 B4))
         refine bodyPost_ret (v := .tuple #[.agg #[.int .i64 0, .string ⟨#[]⟩, .string ⟨#[]⟩, .string ⟨#[]⟩], .int .i64 170]) (by simp [results, Tryz.results8, go_sem, x0, x1, x2, x3]) rfl ?_
         exact ⟨by rw [HRD.out]; rfl, below_set4 HB2.out (Nat.le_refl _)⟩
       | true =>
         obtain rfl : fi = false := by
           cases fi with
           | false => rfl
           | true => exact absurd ⟨rfl, rfl⟩ hof
         go_enter Tryz.func8, Tryz.ntmps8
         go_wp2_with (first
           | (go_at_call 29; rw [HU0.out]; (with_reducible refine (C1.out _ HB0.out).mono ?_); rintro e1 w1 ⟨rfl, hb1⟩; have HB1 := Lib.hid (HB0.out.trans (hb1.mono HB0.out.size)); have HX1 := Lib.hid hb1; clear hb1)
           | (go_at_call 29; (with_reducible refine (C2.out _ HB1.out).mono ?_); rintro e2 w2 ⟨rfl, hb2⟩; have HB2 := Lib.hid (HB1.out.trans (hb2.mono HB1.out.size)); have B4 := G4.below (HX1.out.trans (hb2.mono HX1.out.size)); have x0 := B4.c0; have x1 := B4.c1; have x2 := B4.c2; have x3 := B4.c3; have f0 := B4.f0; have f1 := B4.f1; have f2 := B4.f2; have f3 := B4.f3; have l4 := B4.lt; clear hb2 B4))
         refine bodyPost_ret (v := .tuple #[.agg #[.int .i64 0, .string ⟨#[]⟩, .string ⟨#[]⟩, .string ⟨#[]⟩], .int .i64 170]) (by simp [results, Tryz.results8, go_sem, x0, x1, x2, x3]) rfl ?_
         exact ⟨by rw [HRD.out]; rfl, below_set4 HB2.out (Nat.le_refl _)⟩
   · have HRD : Hid (readN k s = (noTerm, 70)) := Lib.hid (by unfold readN; rw [if_neg h12, if_neg h3])
     have q1 : (k == 1) = false := beq_eq_false_iff_ne.2 (fun e => h12 (.inl e))
     have q2 : (k == 2) = false := beq_eq_false_iff_ne.2 (fun e => h12 (.inr e))
     have q3 : (k == 3) = false := beq_eq_false_iff_ne.2 h3
     clear h12 h3 EN CU RP
     go_enter Tryz.func8, Tryz.ntmps8
     go_wp2_with fail
     have x0 := G4.c0
     have x1 := G4.c1
     have x2 := G4.c2
     have x3 := G4.c3
     generalize (w.alloc (.cells #[.int .i64 0, .string ⟨#[]⟩, .string ⟨#[]⟩, .string ⟨#[]⟩] 23)).alloc (.cells #[.int .i64 k, .string (B s), .string ⟨#[]⟩, .string ⟨#[]⟩] 23) = U at x0 x1 x2 x3 HB0 ⊢
     refine bodyPost_ret (v := .tuple #[.agg #[.int .i64 0, .string ⟨#[]⟩, .string ⟨#[]⟩, .string ⟨#[]⟩], .int .i64 70]) (by simp [results, Tryz.results8, go_sem, x0, x1, x2, x3]) rfl ?_
     exact ⟨by rw [HRD.out]; rfl, HB0.out⟩
end Go.Proofs.YtfocpjcbfbbpgaaGreatDoor
