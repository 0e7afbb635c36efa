/-
  tesseraref17.cut and Read: contracts. By an AI agent.
-/
import Derived.Test.YtfocpjcbfbbpgaaGreatDoorZEntryR
namespace Go.Proofs.YtfocpjcbfbbpgaaGreatDoor
open Go.RowKit
set_option maxRecDepth 1000000
theorem cutR_none {s : List UInt8} (h : ∀ c ∈ s, c ≠ 0) : cutR s = ([], []) := by
 unfold cutR
 split
 · rfl
 · rw [if_neg (fun hm => h 0 hm rfl)]
theorem cutR_at {s : List UInt8} {j : Nat} (hj : j < s.length) (hz : s[j] = 0) (h : ∀ c ∈ s.take j, c ≠ 0) : cutR s = (s.take j, s.drop (j + 1)) := by
 have e : s.take j ++ 0 :: s.drop (j + 1) = s := by rw [<- hz, <- List.drop_eq_getElem_cons hj, List.take_append_drop]
 have := cutR_z (b := s.drop (j + 1)) h
 rwa [e] at this
theorem cutR_len (s : List UInt8) : (cutR s).1.length <= s.length /\ (cutR s).2.length <= s.length := by
 by_cases h : ∀ c ∈ s, c ≠ 0
 · rw [cutR_none h]; simp
 · unfold cutR
   split
   · simp
   · split
     · refine ⟨(List.takeWhile_sublist _).length_le, ?_⟩
       have := (List.dropWhile_sublist (l := s) (fun c => !(c == 0))).length_le
       simp at this ⊢
       omega
     · simp
theorem decR_short {l : List UInt8} (h : l.length <= 1) : decR l = none := by
 match l, h with
 | [], _ => rfl
 | [_], _ => rfl
 | _ :: _ :: _, h => simp at h
theorem decR_step {s acc : List UInt8} {k : Nat} (hk : k + 1 < s.length) (h : decR s = (decR (s.drop k)).map fun x => (acc ++ x.1, x.2)) (hc : s[k] ≠ 0) : decR s = (decR (s.drop (k + 1))).map fun x => ((acc ++ [s[k]]) ++ x.1, x.2) := by
 rw [h, List.drop_eq_getElem_cons (by omega : k < s.length)]
 obtain ⟨d, r, hd⟩ : ∃ d r, s.drop (k + 1) = d :: r := ⟨_, _, List.drop_eq_getElem_cons hk⟩
 rw [hd, decR, if_neg hc, Option.map_map]
 congr 1
 funext x
 simp
theorem decR_zero {s acc : List UInt8} {k : Nat} (hk : k + 1 < s.length) (h : decR s = (decR (s.drop k)).map fun x => (acc ++ x.1, x.2)) (hc : s[k] = 0) (hd : s[k + 1] ≠ 0) : decR s = (decR (s.drop (k + 2))).map fun x => ((acc ++ [s[k]]) ++ x.1, x.2) := by
 rw [h, List.drop_eq_getElem_cons (by omega : k < s.length), List.drop_eq_getElem_cons hk, decR, if_pos hc, if_neg hd, Option.map_map, hc]
 congr 1
 funext x
 simp
theorem decR_end {s acc : List UInt8} {k : Nat} (hk : k + 1 < s.length) (h : decR s = (decR (s.drop k)).map fun x => (acc ++ x.1, x.2)) (hc : s[k] = 0) (hd : s[k + 1] = 0) : decR s = some (acc, s.drop (k + 2)) := by
 rw [h, List.drop_eq_getElem_cons (by omega : k < s.length), List.drop_eq_getElem_cons hk, decR, if_pos hc, if_pos hd]
 simp
theorem byte_zn {c : UInt8} (h : c = 0) : ((c.toNat : Int) != 0) = false := by rw [h]; rfl
theorem byte_nzn {c : UInt8} (h : c ≠ 0) : ((c.toNat : Int) != 0) = true := bne_iff_ne.2 (fun e => h (UInt8.toNat_inj.1 (by simpa using e)))
theorem Blk4.set4 {u : World} {g : Nat} {a b c d a' b' c' d' : Value} {T : TypeId} (h : u.heap[g]? = some (.cells #[a, b, c, d] T (0, 0))) : Blk4 ((((u.setCell ⟨g, 0, none⟩ a').setCell ⟨g, 1, none⟩ b').setCell ⟨g, 2, none⟩ c').setCell ⟨g, 3, none⟩ d') g a' b' c' d' :=
 Blk4.of (heap_setCell_same _ g 3 _ T d' (heap_setCell_same _ g 2 _ T c' (heap_setCell_same _ g 1 _ T b' (heap_setCell_same u g 0 _ T a' h))))
theorem byte_z {c : UInt8} (h : c = 0) : ((c.toNat : Int) == 0) = true := by rw [h]; rfl
theorem byte_nz {c : UInt8} (h : c ≠ 0) : ((c.toNat : Int) == 0) = false := beq_eq_false_iff_ne.2 (fun e => h (UInt8.toNat_inj.1 (by simpa using e)))
set_option maxHeartbeats 4000000 in
theorem refCut17_l (s : List UInt8) (w : World) (hs : s.length <= 4194304) :
   Calls Tryz.prog 30 #[.string (B s)] w fun e w' => (∃ b, e = .returned (.tuple #[.string (B (cutR s).1), .string (B (cutR s).2), .bool b])) /\ Below w.heap.size w w' := by
 go_enter Tryz.func30, Tryz.ntmps30
 go_wp2_with fail
 go_loopw [5] (fun i wr => ∃ j : Nat, i = .int .i64 j /\ j <= s.length /\ Hid (∀ c ∈ s.take j, c ≠ 0) /\ Hid (wr = w)) (fun i _ => s.length - (intOf i).toNat)
 case atStart => exact ⟨0, rfl, Nat.zero_le _, Lib.hid (by simp), Lib.hid rfl⟩
 case round =>
   obtain ⟨j, rfl, hj, HN, HW⟩ := hrel
   obtain rfl := HW.out
   by_cases hlt : j < s.length
   · have q1 : decide ((j : Int) < (s.length : Int)) = true := decide_eq_true (by omega)
     have q1n : decide (j < s.length) = true := decide_eq_true hlt
     have j0 : 0 <= (j : Int) := by omega
     have j1 : (j : Int) < (s.length : Int) := by omega
     by_cases h0 : s[j] = 0
     · have q2 := byte_z h0
       have HE := Lib.hid (cutR_at hlt h0 HN.out)
       have j2 : (j : Int) <= (s.length : Int) := by omega
       have j3 : 0 <= (j : Int) + 1 := by omega
       have j4 : (j : Int) + 1 <= (s.length : Int) := by omega
       clear h0
       go_wp2_with fail
       go_region
       go_wp2_with fail
       refine bodyPost_ret (v := .tuple #[.string (B (s.take j)), .string (B (s.drop (j + 1))), .bool true]) (by simp [results, Tryz.results30, go_sem]) rfl ?_
       rw [HE.out]
       exact ⟨by first | exact ⟨true, rfl⟩ | exact .inr rfl, (Below.refl _ _).drew⟩
     · have q2 := byte_nz h0
       have HN2 : Hid (∀ c ∈ s.take (j + 1), c ≠ 0) := Lib.hid (by
         rw [List.take_succ_eq_append_getElem hlt]
         intro c hc
         rcases List.mem_append.1 hc with hc | hc
         · exact HN.out c hc
         · obtain rfl := List.mem_singleton.1 hc; exact h0)
       clear h0
       go_wp2_with fail
       go_roundw
       case rel => exact ⟨j + 1, by go_num, by omega, HN2, Lib.hid (by first | rfl | trivial)⟩
       case measure => simp [intOf]; omega
   · have q1 : decide ((j : Int) < (s.length : Int)) = false := decide_eq_false (by omega)
     have q1n : decide (j < s.length) = false := decide_eq_false hlt
     have HE : Hid (cutR s = ([], [])) := Lib.hid (cutR_none (by have := HN.out; rwa [List.take_of_length_le (by omega)] at this))
     go_wp2_with fail
     refine bodyPost_ret (v := .tuple #[.string ⟨#[]⟩, .string ⟨#[]⟩, .bool false]) (by simp [results, Tryz.results30, go_sem]) rfl ?_
     rw [HE.out]
     exact ⟨by first | exact ⟨false, rfl⟩ | exact .inl rfl, Below.refl _ _⟩
set_option maxHeartbeats 8000000 in
theorem refRead17_l (k : Int) (s : List UInt8) (w : World) (hs : s.length <= 1048576) :
   Calls Tryz.prog 9 #[.int .i64 k, .string (B s)] w fun e w' => e = .returned (.tuple #[termV (readN k s).1, .int .i64 (readN k s).2]) /\ Below w.heap.size w w' := by
 have EN := Lib.hid (fun (t : TermL) (u : World) (_ : Below w.heap.size w u) (h1 : t.text.length <= 1048576) (h2 : t.type.length <= 1048576) (h3 : t.lang.length <= 1048576) => refEntry17_l t u h1 h2 h3)
 have CU := Lib.hid (fun (l : List UInt8) (u : World) (hl : l.length <= 4194304) => refCut17_l l u hl)
 have RP : True := trivial
 obtain ⟨G4, G6, hb0⟩ := two4 w (.int .i64 k) (.string (B s)) (.string ⟨#[]⟩) (.string ⟨#[]⟩) 23
 have HB0 := Lib.hid hb0
 clear hb0
 by_cases h12 : k = 1 \/ k = 2
 · have HRD : Hid (readN k s = takeN s (some ⟨k, s, [], []⟩)) := Lib.hid (by unfold readN; rw [if_pos h12])
   have htx : s.length <= 1048576 := hs
   have hty : ([] : List UInt8).length <= 1048576 := by simp
   have hla : ([] : List UInt8).length <= 1048576 := by simp
   rcases h12 with rfl | rfl
   · go_enter Tryz.func9, Tryz.ntmps9
     go_upto_region 18 with fail
     generalize hU : (w.alloc (.cells #[.int .i64 0, .string ⟨#[]⟩, .string ⟨#[]⟩, .string ⟨#[]⟩] 23)).alloc (.cells #[.int .i64 1, .string (B s), .string ⟨#[]⟩, .string ⟨#[]⟩] 23) = U at G4 G6 HB0 ⊢
     clear hU
     have HBU := HB0
     obtain ⟨en, ec, hen, hcs⟩ := take_cases s ⟨1, s, [], []⟩
     have E0 := EN.out ⟨1, s, [], []⟩ U HBU.out htx hty hla
     rw [hen] at E0
     have E1 : Hid (Calls Tryz.prog 7 #[.agg #[.int .i64 1, .string (B s), .string ⟨#[]⟩, .string ⟨#[]⟩]] U fun e w' => e = .returned (.tuple #[.string (B en), .int .i64 ec]) /\ Below U.heap.size U w') := Lib.hid E0
     clear hen E0 EN CU RP
     have y0 := G6.c0
     have y1 := G6.c1
     have y2 := G6.c2
     have y3 := G6.c3
     rcases hcs with ⟨hc, htk⟩ | ⟨hc, hes, htk⟩ | ⟨hc, hes, htk⟩
     · have q1 : (ec != 0) = true := bne_iff_ne.2 hc
       have HTK := Lib.hid htk
       clear hc htk
       go_wp2_with (go_at_call 7; (with_reducible refine E1.out.mono ?_); rintro e6 w6 ⟨rfl, hb6⟩; have B4 := G4.below hb6; have B6 := G6.below hb6; have HB6 := Lib.hid (HBU.out.trans (hb6.mono HBU.out.size)); have x0 := B4.c0; have x1 := B4.c1; have x2 := B4.c2; have x3 := B4.c3; have f0 := B4.f0; have f1 := B4.f1; have f2 := B4.f2; have f3 := B4.f3; have l4 := B4.lt; clear y0 y1 y2 y3; have y0 := B6.c0; have y1 := B6.c1; have y2 := B6.c2; have y3 := B6.c3; have l6 := B6.lt; clear hb6 B4 B6)
       refine bodyPost_ret (v := .tuple #[.agg #[.int .i64 0, .string ⟨#[]⟩, .string ⟨#[]⟩, .string ⟨#[]⟩], .int .i64 170]) (by simp [results, Tryz.results9, go_sem, x0, x1, x2, x3]) rfl ?_
       exact ⟨by rw [HRD.out, HTK.out]; rfl, below_set4 HB6.out (Nat.le_refl _)⟩
     · subst hc
       rw [hes] at E1
       clear hes
       have HTK := Lib.hid htk
       clear htk
       go_wp2_with (go_at_call 7; (with_reducible refine E1.out.mono ?_); rintro e6 w6 ⟨rfl, hb6⟩; have B4 := G4.below hb6; have B6 := G6.below hb6; have HB6 := Lib.hid (HBU.out.trans (hb6.mono HBU.out.size)); have x0 := B4.c0; have x1 := B4.c1; have x2 := B4.c2; have x3 := B4.c3; have f0 := B4.f0; have f1 := B4.f1; have f2 := B4.f2; have f3 := B4.f3; have l4 := B4.lt; clear y0 y1 y2 y3; have y0 := B6.c0; have y1 := B6.c1; have y2 := B6.c2; have y3 := B6.c3; have l6 := B6.lt; clear hb6 B4 B6)
       refine bodyPost_ret (v := .tuple #[.agg #[.int .i64 1, .string (B s), .string ⟨#[]⟩, .string ⟨#[]⟩], .int .i64 0]) (by simp [results, Tryz.results9, go_sem, x0, x1, x2, x3]) rfl ?_
       exact ⟨by rw [HRD.out, HTK.out]; rfl, below_set4 HB6.out (Nat.le_refl _)⟩
     · subst hc
       have q2 : (en == s) = false := beq_eq_false_iff_ne.2 hes
       have HTK := Lib.hid htk
       clear hes htk
       go_wp2_with (go_at_call 7; (with_reducible refine E1.out.mono ?_); rintro e6 w6 ⟨rfl, hb6⟩; have B4 := G4.below hb6; have B6 := G6.below hb6; have HB6 := Lib.hid (HBU.out.trans (hb6.mono HBU.out.size)); have x0 := B4.c0; have x1 := B4.c1; have x2 := B4.c2; have x3 := B4.c3; have f0 := B4.f0; have f1 := B4.f1; have f2 := B4.f2; have f3 := B4.f3; have l4 := B4.lt; clear y0 y1 y2 y3; have y0 := B6.c0; have y1 := B6.c1; have y2 := B6.c2; have y3 := B6.c3; have l6 := B6.lt; clear hb6 B4 B6)
       refine bodyPost_ret (v := .tuple #[.agg #[.int .i64 0, .string ⟨#[]⟩, .string ⟨#[]⟩, .string ⟨#[]⟩], .int .i64 170]) (by simp [results, Tryz.results9, go_sem, x0, x1, x2, x3]) rfl ?_
       exact ⟨by rw [HRD.out, HTK.out]; rfl, below_set4 HB6.out (Nat.le_refl _)⟩
   · go_enter Tryz.func9, Tryz.ntmps9
     go_upto_region 18 with fail
     generalize hU : (w.alloc (.cells #[.int .i64 0, .string ⟨#[]⟩, .string ⟨#[]⟩, .string ⟨#[]⟩] 23)).alloc (.cells #[.int .i64 2, .string (B s), .string ⟨#[]⟩, .string ⟨#[]⟩] 23) = U at G4 G6 HB0 ⊢
     clear hU
     have HBU := HB0
     obtain ⟨en, ec, hen, hcs⟩ := take_cases s ⟨2, s, [], []⟩
     have E0 := EN.out ⟨2, s, [], []⟩ U HBU.out htx hty hla
     rw [hen] at E0
     have E1 : Hid (Calls Tryz.prog 7 #[.agg #[.int .i64 2, .string (B s), .string ⟨#[]⟩, .string ⟨#[]⟩]] U fun e w' => e = .returned (.tuple #[.string (B en), .int .i64 ec]) /\ Below U.heap.size U w') := Lib.hid E0
     clear hen E0 EN CU RP
     have y0 := G6.c0
     have y1 := G6.c1
     have y2 := G6.c2
     have y3 := G6.c3
     rcases hcs with ⟨hc, htk⟩ | ⟨hc, hes, htk⟩ | ⟨hc, hes, htk⟩
     · have q1 : (ec != 0) = true := bne_iff_ne.2 hc
       have HTK := Lib.hid htk
       clear hc htk
       go_wp2_with (go_at_call 7; (with_reducible refine E1.out.mono ?_); rintro e6 w6 ⟨rfl, hb6⟩; have B4 := G4.below hb6; have B6 := G6.below hb6; have HB6 := Lib.hid (HBU.out.trans (hb6.mono HBU.out.size)); have x0 := B4.c0; have x1 := B4.c1; have x2 := B4.c2; have x3 := B4.c3; have f0 := B4.f0; have f1 := B4.f1; have f2 := B4.f2; have f3 := B4.f3; have l4 := B4.lt; clear y0 y1 y2 y3; have y0 := B6.c0; have y1 := B6.c1; have y2 := B6.c2; have y3 := B6.c3; have l6 := B6.lt; clear hb6 B4 B6)
       refine bodyPost_ret (v := .tuple #[.agg #[.int .i64 0, .string ⟨#[]⟩, .string ⟨#[]⟩, .string ⟨#[]⟩], .int .i64 170]) (by simp [results, Tryz.results9, go_sem, x0, x1, x2, x3]) rfl ?_
       exact ⟨by rw [HRD.out, HTK.out]; rfl, below_set4 HB6.out (Nat.le_refl _)⟩
     · subst hc
       rw [hes] at E1
       clear hes
       have HTK := Lib.hid htk
       clear htk
       go_wp2_with (go_at_call 7; (with_reducible refine E1.out.mono ?_); rintro e6 w6 ⟨rfl, hb6⟩; have B4 := G4.below hb6; have B6 := G6.below hb6; have HB6 := Lib.hid (HBU.out.trans (hb6.mono HBU.out.size)); have x0 := B4.c0; have x1 := B4.c1; have x2 := B4.c2; have x3 := B4.c3; have f0 := B4.f0; have f1 := B4.f1; have f2 := B4.f2; have f3 := B4.f3; have l4 := B4.lt; clear y0 y1 y2 y3; have y0 := B6.c0; have y1 := B6.c1; have y2 := B6.c2; have y3 := B6.c3; have l6 := B6.lt; clear hb6 B4 B6)
       refine bodyPost_ret (v := .tuple #[.agg #[.int .i64 2, .string (B s), .string ⟨#[]⟩, .string ⟨#[]⟩], .int .i64 0]) (by simp [results, Tryz.results9, go_sem, x0, x1, x2, x3]) rfl ?_
       exact ⟨by rw [HRD.out, HTK.out]; rfl, below_set4 HB6.out (Nat.le_refl _)⟩
     · subst hc
       have q2 : (en == s) = false := beq_eq_false_iff_ne.2 hes
       have HTK := Lib.hid htk
       clear hes htk
       go_wp2_with (go_at_call 7; (with_reducible refine E1.out.mono ?_); rintro e6 w6 ⟨rfl, hb6⟩; have B4 := G4.below hb6; have B6 := G6.below hb6; have HB6 := Lib.hid (HBU.out.trans (hb6.mono HBU.out.size)); have x0 := B4.c0; have x1 := B4.c1; have x2 := B4.c2; have x3 := B4.c3; have f0 := B4.f0; have f1 := B4.f1; have f2 := B4.f2; have f3 := B4.f3; have l4 := B4.lt; clear y0 y1 y2 y3; have y0 := B6.c0; have y1 := B6.c1; have y2 := B6.c2; have y3 := B6.c3; have l6 := B6.lt; clear hb6 B4 B6)
       refine bodyPost_ret (v := .tuple #[.agg #[.int .i64 0, .string ⟨#[]⟩, .string ⟨#[]⟩, .string ⟨#[]⟩], .int .i64 170]) (by simp [results, Tryz.results9, go_sem, x0, x1, x2, x3]) rfl ?_
       exact ⟨by rw [HRD.out, HTK.out]; rfl, below_set4 HB6.out (Nat.le_refl _)⟩
 · by_cases h3 : k = 3
   · subst h3
     have HRD3 : Hid (readN 3 s = takeN s (candR s)) := Lib.hid (by rw [take_cand]; unfold readN; rw [if_neg (by decide), if_pos rfl])
     obtain ⟨U0, hU0⟩ : ∃ U0, (w.alloc (.cells #[.int .i64 0, .string ⟨#[]⟩, .string ⟨#[]⟩, .string ⟨#[]⟩] 23)).alloc (.cells #[.int .i64 3, .string (B s), .string ⟨#[]⟩, .string ⟨#[]⟩] 23) = U0 := ⟨_, rfl⟩
     have hh6 : U0.heap[w.heap.size + 1]? = some (.cells #[.int .i64 3, .string (B s), .string ⟨#[]⟩, .string ⟨#[]⟩] 23 (0, 0)) := by
       have h2 := World.alloc_heap_new (w.alloc (.cells #[.int .i64 0, .string ⟨#[]⟩, .string ⟨#[]⟩, .string ⟨#[]⟩] 23)) (.cells #[.int .i64 3, .string (B s), .string ⟨#[]⟩, .string ⟨#[]⟩] 23)
       rw [World.size_alloc, hU0] at h2
       exact h2
     have HZ : Hid (U0.heap.size = w.heap.size + 2) := Lib.hid (by rw [<- hU0]; simp)
     rw [hU0] at G4 G6 HB0
     have HH6 := Lib.hid hh6
     have hz6 : w.heap.size + 1 < U0.heap.size := (Array.getElem?_eq_some_iff.1 hh6).1
     have HU0 := Lib.hid hU0
     clear hh6 hU0 h12
     go_enter Tryz.func9, Tryz.ntmps9
     go_wp2_with fail
     rw [HU0.out]
     go_loopw [7, 8] (fun v i wr => ∃ (j : Nat) (acc : List UInt8), i = .int .i64 j /\ j <= s.length /\ acc.length <= j /\ Hid (decR s = (decR (s.drop j)).map fun x => (acc ++ x.1, x.2)) /\ Hid (BOwn U0.heap.size v acc wr) /\ Hid (Below U0.heap.size U0 wr)) (fun _ i _ => s.length - (intOf i).toNat)
     case atStart => exact ⟨0, [], rfl, Nat.zero_le _, Nat.le_refl _, Lib.hid (by simp), Lib.hid (BOwn.nil _ _), Lib.hid (Below.refl _ _)⟩
     case round =>
       obtain ⟨j, acc, rfl, hj, hacc, HD, HO, HB⟩ := hrel
       obtain ⟨a0, n0, rfl⟩ := HO.out.slice
       by_cases hlt : j + 1 < s.length
       · have q1 : decide ((j : Int) + 1 < (s.length : Int)) = true := decide_eq_true (by omega)
         have q1n : decide (j + 1 < s.length) = true := decide_eq_true hlt
         have q1g : decide ((s.length : Int) <= (j : Int) + 1) = false := decide_eq_false (by omega)
         have q1h : decide (s.length <= j + 1) = false := decide_eq_false (by omega)
         have hj1 : j < s.length := by omega
         have j0 : 0 <= (j : Int) := by omega
         have j1 : (j : Int) < (s.length : Int) := by omega
         have j2 : 0 <= (j : Int) + 1 := by omega
         have j3 : (j : Int) + 1 < (s.length : Int) := by omega
         have SA := Lib.hid (HO.out.below ((Below.refl _ wr).alloc (Nat.le_refl _) (.cells ([s[j]].map U8).toArray 5)))
         have HBA := Lib.hid (HB.out.alloc HB.out.size (.cells ([s[j]].map U8).toArray 5))
         have AA := Lib.hid (at_bytes wr [s[j]])
         by_cases h0 : s[j] = 0
         · have q2 := byte_z h0
           have n2 := byte_zn h0
           by_cases h1 : s[j + 1] = 0
           · have q3 := byte_z h1
             have n3 := byte_zn h1
             have HE := Lib.hid (decR_end hlt HD.out h0 h1)
             clear h0 h1 HD SA HBA AA
             have hdl : (s.drop (j + 2)).length <= s.length := by simp
             have hcl := cutR_len (s.drop (j + 2))
             obtain ⟨ty, la, hcr⟩ : ∃ a b, cutR (s.drop (j + 2)) = (a, b) := ⟨_, _, rfl⟩
             have C1 : Hid (∀ u, Calls Tryz.prog 30 #[.string (B (s.drop (j + 2)))] u fun e w' => (∃ b, e = .returned (.tuple #[.string (B ty), .string (B la), .bool b])) /\ Below u.heap.size u w') := Lib.hid (fun u => by
               have h := CU.out (s.drop (j + 2)) u (by omega)
               rw [hcr] at h
               exact h)
             have HRD : Hid (readN 3 s = takeN s (some ⟨3, acc, ty, la⟩)) := Lib.hid (by rw [HRD3.out]; unfold candR; rw [HE.out, Option.map_some, hcr])
             rw [hcr] at hcl
             have htx : acc.length <= 1048576 := by omega
             have hty : ty.length <= 1048576 := by simp only at hcl; omega
             have hla : la.length <= 1048576 := by simp only at hcl; omega
             have j4 : 0 <= (j : Int) + 2 := by omega
             have j5 : (j : Int) + 2 <= (s.length : Int) := by omega
             have hback := HO.out.back
             clear hcr hcl HRD3 HE hdl
             go_upto_region 18 with (go_at_call 30; (with_reducible refine (C1.out _).mono ?_); rintro e3 w3 ⟨⟨b3, rfl⟩, hb3⟩; have HB3 := Lib.hid (HB.out.trans (hb3.mono HB.out.size)); clear hback; have hback := (HO.out.below hb3).back; have P6 := G6.below HB3.out; have u0 := P6.c0; have u1 := P6.c1; have u2 := P6.c2; have u3 := P6.c3; have v0 := P6.f0; have v1 := P6.f1; have v2 := P6.f2; have v3 := P6.f3; have l6 := P6.lt; clear hb3 P6)
             have hl4 := G4.lt
             have hh3 := (HB3.out.block _ hz6).trans HH6.out
             have G6 := Blk4.set4 (a' := .int .i64 3) (b' := .string (B acc)) (c' := .string (B ty)) (d' := .string (B la)) hh3
             have G4 := ((((G4.below HB3.out).other (g' := w.heap.size + 1) (j := 0) (v := .int .i64 3) (by omega)).other (g' := w.heap.size + 1) (j := 1) (v := .string (B acc)) (by omega)).other (g' := w.heap.size + 1) (j := 2) (v := .string (B ty)) (by omega)).other (g' := w.heap.size + 1) (j := 3) (v := .string (B la)) (by omega)
             have HBU : Hid (Below w.heap.size w ((((w3.setCell ⟨w.heap.size + 1, 0, none⟩ (.int .i64 3)).setCell ⟨w.heap.size + 1, 1, none⟩ (.string (B acc))).setCell ⟨w.heap.size + 1, 2, none⟩ (.string (B ty))).setCell ⟨w.heap.size + 1, 3, none⟩ (.string (B la)))) := Lib.hid (below_set4 (HB0.out.trans (HB3.out.mono HB0.out.size)) (Nat.le_succ _))
             clear u0 u1 u2 u3 v0 v1 v2 v3 l6
             generalize ((((w3.setCell ⟨w.heap.size + 1, 0, none⟩ (.int .i64 3)).setCell ⟨w.heap.size + 1, 1, none⟩ (.string (B acc))).setCell ⟨w.heap.size + 1, 2, none⟩ (.string (B ty))).setCell ⟨w.heap.size + 1, 3, none⟩ (.string (B la))) = U at G4 G6 HBU ⊢
             obtain ⟨en, ec, hen, hcs⟩ := take_cases s ⟨3, acc, ty, la⟩
             have E0 := EN.out ⟨3, acc, ty, la⟩ U HBU.out htx hty hla
             rw [hen] at E0
             have E1 : Hid (Calls Tryz.prog 7 #[.agg #[.int .i64 3, .string (B acc), .string (B ty), .string (B la)]] U fun e w' => e = .returned (.tuple #[.string (B en), .int .i64 ec]) /\ Below U.heap.size U w') := Lib.hid E0
             clear hen E0 EN CU RP
             have y0 := G6.c0
             have y1 := G6.c1
             have y2 := G6.c2
             have y3 := G6.c3
             rcases hcs with ⟨hc, htk⟩ | ⟨hc, hes, htk⟩ | ⟨hc, hes, htk⟩
             · have q1 : (ec != 0) = true := bne_iff_ne.2 hc
               have HTK := Lib.hid htk
               clear hc htk
               go_wp2_with (go_at_call 7; (with_reducible refine E1.out.mono ?_); rintro e6 w6 ⟨rfl, hb6⟩; have B4 := G4.below hb6; have B6 := G6.below hb6; have HB6 := Lib.hid (HBU.out.trans (hb6.mono HBU.out.size)); have x0 := B4.c0; have x1 := B4.c1; have x2 := B4.c2; have x3 := B4.c3; have f0 := B4.f0; have f1 := B4.f1; have f2 := B4.f2; have f3 := B4.f3; have l4 := B4.lt; clear y0 y1 y2 y3; have y0 := B6.c0; have y1 := B6.c1; have y2 := B6.c2; have y3 := B6.c3; have l6 := B6.lt; clear hb6 B4 B6)
               refine bodyPost_ret (v := .tuple #[.agg #[.int .i64 0, .string ⟨#[]⟩, .string ⟨#[]⟩, .string ⟨#[]⟩], .int .i64 170]) (by simp [results, Tryz.results9, go_sem, x0, x1, x2, x3]) rfl ?_
               exact ⟨by rw [HRD.out, HTK.out]; rfl, below_set4 HB6.out (Nat.le_refl _)⟩
             · subst hc
               rw [hes] at E1
               clear hes
               have HTK := Lib.hid htk
               clear htk
               go_wp2_with (go_at_call 7; (with_reducible refine E1.out.mono ?_); rintro e6 w6 ⟨rfl, hb6⟩; have B4 := G4.below hb6; have B6 := G6.below hb6; have HB6 := Lib.hid (HBU.out.trans (hb6.mono HBU.out.size)); have x0 := B4.c0; have x1 := B4.c1; have x2 := B4.c2; have x3 := B4.c3; have f0 := B4.f0; have f1 := B4.f1; have f2 := B4.f2; have f3 := B4.f3; have l4 := B4.lt; clear y0 y1 y2 y3; have y0 := B6.c0; have y1 := B6.c1; have y2 := B6.c2; have y3 := B6.c3; have l6 := B6.lt; clear hb6 B4 B6)
               refine bodyPost_ret (v := .tuple #[.agg #[.int .i64 3, .string (B acc), .string (B ty), .string (B la)], .int .i64 0]) (by simp [results, Tryz.results9, go_sem, x0, x1, x2, x3]) rfl ?_
               exact ⟨by rw [HRD.out, HTK.out]; rfl, below_set4 HB6.out (Nat.le_refl _)⟩
             · subst hc
               have q2 : (en == s) = false := beq_eq_false_iff_ne.2 hes
               have HTK := Lib.hid htk
               clear hes htk
               go_wp2_with (go_at_call 7; (with_reducible refine E1.out.mono ?_); rintro e6 w6 ⟨rfl, hb6⟩; have B4 := G4.below hb6; have B6 := G6.below hb6; have HB6 := Lib.hid (HBU.out.trans (hb6.mono HBU.out.size)); have x0 := B4.c0; have x1 := B4.c1; have x2 := B4.c2; have x3 := B4.c3; have f0 := B4.f0; have f1 := B4.f1; have f2 := B4.f2; have f3 := B4.f3; have l4 := B4.lt; clear y0 y1 y2 y3; have y0 := B6.c0; have y1 := B6.c1; have y2 := B6.c2; have y3 := B6.c3; have l6 := B6.lt; clear hb6 B4 B6)
               refine bodyPost_ret (v := .tuple #[.agg #[.int .i64 0, .string ⟨#[]⟩, .string ⟨#[]⟩, .string ⟨#[]⟩], .int .i64 170]) (by simp [results, Tryz.results9, go_sem, x0, x1, x2, x3]) rfl ?_
               exact ⟨by rw [HRD.out, HTK.out]; rfl, below_set4 HB6.out (Nat.le_refl _)⟩
           · have q3 := byte_nz h1
             have n3 := byte_nzn h1
             have HN := Lib.hid (decR_zero hlt HD.out h0 h1)
             clear h0 h1 HD
             go_wp2_with (first | (at_builtin; refine wpList_app_bytes rfl (.tmp 42) (.tmp 46) rfl U0.heap.size _ acc [s[j]] rfl SA.out _ _ _ rfl rfl AA.out (by simp; omega) HBA.out.size ?_; intro v2 w2 hO2 hg2; have HB2 := Lib.hid (HBA.out.grown hg2 HBA.out.size (fun i e => (SA.out.base _ e).1)); have HO2 := Lib.hid hO2; obtain ⟨a2, n2, hv2⟩ := hO2.slice; simp only [List.length_append, List.length_cons, List.length_nil, Nat.zero_add] at hv2; subst hv2; clear hO2 hg2))
             go_roundw
             case rel => exact ⟨j + 2, _, by go_num, by omega, by simp; omega, HN, HO2, HB2⟩
             case measure => simp [intOf]; omega
         · have q2 := byte_nz h0
           have n2 := byte_nzn h0
           have HN := Lib.hid (decR_step hlt HD.out h0)
           clear h0 HD
           go_wp2_with (first | (at_builtin; refine wpList_app_bytes rfl (.tmp 42) (.tmp 46) rfl U0.heap.size _ acc [s[j]] rfl SA.out _ _ _ rfl rfl AA.out (by simp; omega) HBA.out.size ?_; intro v2 w2 hO2 hg2; have HB2 := Lib.hid (HBA.out.grown hg2 HBA.out.size (fun i e => (SA.out.base _ e).1)); have HO2 := Lib.hid hO2; obtain ⟨a2, n2, hv2⟩ := hO2.slice; simp only [List.length_append, List.length_cons, List.length_nil, Nat.zero_add] at hv2; subst hv2; clear hO2 hg2))
           go_roundw
           case rel => exact ⟨j + 1, _, by go_num, by omega, by simp; omega, HN, HO2, HB2⟩
           case measure => simp [intOf]; omega
       · have q1 : decide ((j : Int) + 1 < (s.length : Int)) = false := decide_eq_false (by omega)
         have q1n : decide (j + 1 < s.length) = false := decide_eq_false hlt
         have q1g : decide ((s.length : Int) <= (j : Int) + 1) = true := decide_eq_true (by omega)
         have q1h : decide (s.length <= j + 1) = true := decide_eq_true (by omega)
         have HRD : Hid (readN 3 s = (noTerm, 170)) := Lib.hid (by
           rw [HRD3.out]
           unfold candR
           rw [HD.out, decR_short (by simp; omega)]
           rfl)
         have B4 := G4.below HB.out
         have x0 := B4.c0
         have x1 := B4.c1
         have x2 := B4.c2
         have x3 := B4.c3
         have f0 := B4.f0
         have f1 := B4.f1
         have f2 := B4.f2
         have f3 := B4.f3
         have l4 := B4.lt
         clear B4 HD
         go_wp2_with fail
         refine bodyPost_ret (v := .tuple #[.agg #[.int .i64 0, .string ⟨#[]⟩, .string ⟨#[]⟩, .string ⟨#[]⟩], .int .i64 170]) (by simp [results, Tryz.results9, go_sem, x0, x1, x2, x3]) rfl ?_
         exact ⟨by rw [HRD.out]; rfl, below_set4 (HB0.out.trans (HB.out.mono HB0.out.size)) (Nat.le_refl _)⟩
   · have HRD : Hid (readN k s = (noTerm, 70)) := Lib.hid (by unfold readN; rw [if_neg h12, if_neg h3])
     have q1 : (k == 1) = false := beq_eq_false_iff_ne.2 (fun e => h12 (.inl e))
     have q2 : (k == 2) = false := beq_eq_false_iff_ne.2 (fun e => h12 (.inr e))
     have q3 : (k == 3) = false := beq_eq_false_iff_ne.2 h3
     clear h12 h3 EN CU RP
     go_enter Tryz.func9, Tryz.ntmps9
     go_wp2_with fail
     have x0 := G4.c0
     have x1 := G4.c1
     have x2 := G4.c2
     have x3 := G4.c3
     generalize (w.alloc (.cells #[.int .i64 0, .string ⟨#[]⟩, .string ⟨#[]⟩, .string ⟨#[]⟩] 23)).alloc (.cells #[.int .i64 k, .string (B s), .string ⟨#[]⟩, .string ⟨#[]⟩] 23) = U at x0 x1 x2 x3 HB0 ⊢
     refine bodyPost_ret (v := .tuple #[.agg #[.int .i64 0, .string ⟨#[]⟩, .string ⟨#[]⟩, .string ⟨#[]⟩], .int .i64 70]) (by simp [results, Tryz.results9, go_sem, x0, x1, x2, x3]) rfl ?_
     exact ⟨by rw [HRD.out]; rfl, HB0.out⟩
end Go.Proofs.YtfocpjcbfbbpgaaGreatDoor
