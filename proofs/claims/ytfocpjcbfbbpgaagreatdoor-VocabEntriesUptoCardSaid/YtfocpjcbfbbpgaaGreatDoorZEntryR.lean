/-
  tesseraref17.Entry: a contract. By an AI agent.
-/
import Derived.Test.YtfocpjcbfbbpgaaGreatDoorZEntryW2
import Derived.Test.YtfocpjcbfbbpgaaGreatDoorZBOwn
namespace Go.Proofs.YtfocpjcbfbbpgaaGreatDoor
open Go.RowKit
set_option maxRecDepth 1000000
theorem escN_append (b : List UInt8) : ∀ a : List UInt8, escN (a ++ b) = escN a ++ escN b
 | [] => rfl
 | c :: r => by
   have ih := escN_append b r
   by_cases h : c = 0
   · subst h; rw [List.cons_append, escN_zero, escN_zero, ih]; rfl
   · rw [List.cons_append, escN_other h, escN_other h, ih]; rfl
theorem escN_take {l : List UInt8} {k : Nat} (h : k < l.length) : escN (l.take (k + 1)) = escN (l.take k) ++ (if l[k] = 0 then [0, 1] else [l[k]]) := by
 rw [List.take_succ_eq_append_getElem h, escN_append]
 by_cases hc : l[k] = 0
 · rw [if_pos hc, hc]; rfl
 · rw [if_neg hc, escN_other hc]; rfl
theorem escN_front (l : List UInt8) (k : Nat) : (escN (l.take k)).length <= 2 * l.length := by
 have := escN_len (l.take k)
 have h2 : (l.take k).length <= l.length := by simp; omega
 omega
structure EnSt (w wr : World) (k : Int) (tx ty la : List UInt8) (v : Value) (acc : List UInt8) : Prop where
 ow : BOwn (w.heap.size + 1) v acc wr
 bx : wr.heap[w.heap.size]? = some (.cells #[.int .i64 k, .string (B tx), .string (B ty), .string (B la)] 23 (0, 0))
 bw : Below w.heap.size w wr
 sz : w.heap.size + 1 <= wr.heap.size
theorem EnSt.cells {w wr : World} {k : Int} {tx ty la : List UInt8} {v : Value} {acc : List UInt8} (h : EnSt w wr k tx ty la v acc) : Blk4 wr w.heap.size (.int .i64 k) (.string (B tx)) (.string (B ty)) (.string (B la)) := Blk4.of h.bx
theorem EnSt.alloc {w wr : World} {k : Int} {tx ty la : List UInt8} {v : Value} {acc : List UInt8} (h : EnSt w wr k tx ty la v acc) (o : Obj) : EnSt w (wr.alloc o) k tx ty la v acc :=
 ⟨h.ow.below ((Below.refl _ _).alloc (Nat.le_refl _) o), (Below.heap_alloc _ _ _ (by have := h.sz; omega)).trans h.bx, h.bw.alloc h.bw.size o, by have := h.sz; simp; omega⟩
theorem EnSt.grown {w wr w2 : World} {k : Int} {tx ty la : List UInt8} {v v2 : Value} {acc acc2 : List UInt8} (h : EnSt w wr k tx ty la v acc) (ho : BOwn (w.heap.size + 1) v2 acc2 w2) (hg : wr.grownBy w2 v.ownBlock) : EnSt w w2 k tx ty la v2 acc2 :=
 ⟨ho, (hg.block _ (by have := h.sz; omega) (fun e => by have := (h.ow.base _ e.symm).1; omega)).trans h.bx, h.bw.grown hg h.bw.size (fun j e => by have := (h.ow.base _ e).1; omega), Nat.le_trans h.sz hg.size⟩
theorem at_bytes (w : World) (l : List UInt8) : At (w.alloc (.cells (l.map U8).toArray 5)) (some ⟨w.heap.size, 0, none⟩) (l.map U8) := at_row w _ _
set_option maxHeartbeats 4000000 in
theorem refEntry17_l (t : TermL) (w : World) (h1 : t.text.length <= 1048576) (h2 : t.type.length <= 1048576) (h3 : t.lang.length <= 1048576) :
   Calls Tryz.prog 7 #[termV t] w fun e w' => e = .returned (.tuple #[.string (B (entryN t).1), .int .i64 (entryN t).2]) /\ Below w.heap.size w w' := by
 have CH := Lib.hid (fun u => refCheck_l t u h1 h2 h3)
 obtain ⟨k, tx, ty, la⟩ := t
 simp only at h1 h2 h3
 unfold termV at CH ⊢
 simp only at CH ⊢
 obtain ⟨tn, htn⟩ : ∃ tn, termN ⟨k, tx, ty, la⟩ = tn := ⟨_, rfl⟩
 rw [htn] at CH
 have S0 : Hid (∀ w1, Below (w.alloc (.cells #[.int .i64 k, .string (B tx), .string (B ty), .string (B la)] 23)).heap.size (w.alloc (.cells #[.int .i64 k, .string (B tx), .string (B ty), .string (B la)] 23)) w1 -> EnSt w w1 k tx ty la (.slice none 0 0) []) := Lib.hid (fun w1 hb => by
   have hs := hb.size
   rw [World.size_alloc] at hs
   exact ⟨BOwn.nil _ _, (hb.block _ (by simp)).trans (World.alloc_heap_new w _), ((Below.refl _ w).alloc (Nat.le_refl _) _).trans (hb.mono (by simp)), hs⟩)
 by_cases hn : tn = 0
 · subst hn
   by_cases hk : k = 3
   · have HE : Hid (entryN ⟨k, tx, ty, la⟩ = (escN tx ++ 0 :: 0 :: (ty ++ 0 :: la), 0)) := Lib.hid (by unfold entryN entryS; rw [if_neg (by simp [htn]), if_pos hk])
     subst hk
     clear htn
     go_enter Tryz.func7, Tryz.ntmps7
     go_wp2_with (go_at_call 28; (with_reducible refine (CH.out _).mono ?_); rintro e w1 ⟨rfl, hb1⟩; have S1 := Lib.hid (S0.out w1 hb1); have C := S1.out.cells; have x0 := C.c0; have x1 := C.c1; have lt0 := C.lt; clear hb1 C)
     go_loopw [5, 6] (fun v i wr => ∃ j : Nat, i = .int .i64 j /\ j <= tx.length /\ Hid (EnSt w wr 3 tx ty la v (escN (tx.take j)))) (fun _ i _ => tx.length - (intOf i).toNat)
     case atStart => exact ⟨0, rfl, Nat.zero_le _, by simpa [escN] using S1⟩
     case round =>
       obtain ⟨j, rfl, hj, HS⟩ := hrel
       clear x0 x1 lt0 S1
       have C := HS.out.cells
       have x1 := C.c1
       have x2 := C.c2
       have x3 := C.c3
       have lt0 := C.lt
       have hfr := escN_front tx j
       obtain ⟨acc, hacc⟩ : ∃ acc, escN (tx.take j) = acc := ⟨_, rfl⟩
       by_cases hlt : j < tx.length
       · have q1 : decide ((j : Int) < (tx.length : Int)) = true := decide_eq_true (by omega)
         have q1n : decide (j < tx.length) = true := decide_eq_true hlt
         have hst := escN_take hlt
         rw [hacc] at hfr hst HS
         have HST := Lib.hid hst
         obtain ⟨a0, n0, rfl⟩ := HS.out.ow.slice
         have SA := Lib.hid (HS.out.alloc (.cells ([tx[j]].map U8).toArray 5))
         have AA := Lib.hid (at_bytes wr [tx[j]])
         clear hst hacc C
         by_cases h0 : tx[j] = 0
         · have q2 : ((tx[j].toNat : Int) == 0) = true := by rw [h0]; rfl
           have HN : Hid (escN (tx.take (j + 1)) = (acc ++ [tx[j]]) ++ [1]) := Lib.hid (by rw [HST.out, if_pos h0, h0]; simp)
           clear h0 HST
           go_wp2_with (first
             | (at_builtin; refine wpList_app_bytes rfl (.tmp 24) (.tmp 29) rfl (w.heap.size + 1) _ acc [tx[j]] rfl SA.out.ow _ _ _ rfl rfl AA.out (by simp; omega) SA.out.sz ?_; intro v2 w2 hO2 hg2; have S2 := Lib.hid (SA.out.grown hO2 hg2); obtain ⟨a2, n2, hv2⟩ := hO2.slice; simp only [List.length_append, List.length_cons, List.length_nil, Nat.zero_add] at hv2; subst hv2; have C2 := S2.out.cells; have z1 := C2.c1; have zt := C2.lt; clear hO2 hg2 C2)
             | (at_builtin; refine wpList_app_bytes rfl (.tmp 36) (.tmp 37) rfl (w.heap.size + 1) _ (acc ++ [tx[j]]) [1] rfl (S2.out.alloc (.cells #[.int .u8 1] 5)).ow _ _ _ rfl rfl (at_bytes w2 [1]) (by simp; omega) ((S2.out.alloc (.cells #[.int .u8 1] 5)).sz) ?_; intro v3 w3 hO3 hg3; have S3 := Lib.hid ((S2.out.alloc (.cells #[.int .u8 1] 5)).grown hO3 hg3); obtain ⟨a3, n3, hv3⟩ := hO3.slice; simp only [List.length_append, List.length_cons, List.length_nil, Nat.zero_add] at hv3; subst hv3; clear hO3 hg3))
           go_roundw
           case rel => exact ⟨j + 1, by go_num, by omega, Lib.hid (by rw [HN.out]; exact S3.out)⟩
           case measure => simp [intOf]; omega
         · have q2 : ((tx[j].toNat : Int) == 0) = false := by
             exact beq_eq_false_iff_ne.2 (fun e => h0 (UInt8.toNat_inj.1 (by simpa using e)))
           have HN : Hid (escN (tx.take (j + 1)) = acc ++ [tx[j]]) := Lib.hid (by rw [HST.out, if_neg h0])
           clear h0 HST
           go_wp2_with (first
             | (at_builtin; refine wpList_app_bytes rfl (.tmp 24) (.tmp 29) rfl (w.heap.size + 1) _ acc [tx[j]] rfl SA.out.ow _ _ _ rfl rfl AA.out (by simp; omega) SA.out.sz ?_; intro v2 w2 hO2 hg2; have S2 := Lib.hid (SA.out.grown hO2 hg2); obtain ⟨a2, n2, hv2⟩ := hO2.slice; simp only [List.length_append, List.length_cons, List.length_nil, Nat.zero_add] at hv2; subst hv2; have C2 := S2.out.cells; have z1 := C2.c1; have zt := C2.lt; clear hO2 hg2 C2))
           go_roundw
           case rel => exact ⟨j + 1, by go_num, by omega, Lib.hid (by rw [HN.out]; exact S2.out)⟩
           case measure => simp [intOf]; omega
       · have q1 : decide ((j : Int) < (tx.length : Int)) = false := decide_eq_false (by omega)
         have q1n : decide (j < tx.length) = false := decide_eq_false hlt
         have HX : Hid (escN tx = acc) := Lib.hid (by rw [<- hacc, List.take_of_length_le (by omega)])
         rw [hacc] at hfr HS
         obtain ⟨a0, n0, rfl⟩ := HS.out.ow.slice
         have SA := Lib.hid (HS.out.alloc (.cells #[.int .u8 0, .int .u8 0] 5))
         have AA : Hid (At (wr.alloc (.cells #[.int .u8 0, .int .u8 0] 5)) (some ⟨wr.heap.size, 0, none⟩) (([0, 0] : List UInt8).map U8)) := Lib.hid (at_bytes wr [0, 0])
         clear C hacc
         go_wp2_with (first
           | (at_builtin; refine wpList_app_bytes rfl (.tmp 39) (.tmp 40) rfl (w.heap.size + 1) _ acc [0, 0] rfl SA.out.ow _ _ _ rfl rfl AA.out (by simp; omega) SA.out.sz ?_; intro v2 w2 hO2 hg2; have S2 := Lib.hid (SA.out.grown hO2 hg2); obtain ⟨a2, n2, hv2⟩ := hO2.slice; simp only [List.length_append, List.length_cons, List.length_nil, Nat.zero_add, Nat.reduceAdd] at hv2; subst hv2; have C2 := S2.out.cells; have z2 := C2.c2; have zt := C2.lt; clear hO2 hg2 C2)
           | (at_builtin; refine wpList_app_str rfl (.tmp 42) (.tmp 44) rfl (w.heap.size + 1) _ (acc ++ [0, 0]) ty rfl S2.out.ow rfl (by simp; omega) S2.out.sz ?_; intro v3 w3 hO3 hg3; have S3 := Lib.hid (S2.out.grown hO3 hg3); obtain ⟨a3, n3, hv3⟩ := hO3.slice; simp only [List.length_append, List.length_cons, List.length_nil, Nat.zero_add, Nat.reduceAdd] at hv3; subst hv3; clear hO3 hg3)
           | (at_builtin; refine wpList_app_bytes rfl (.tmp 46) (.tmp 47) rfl (w.heap.size + 1) _ (acc ++ [0, 0] ++ ty) [0] rfl (S3.out.alloc (.cells #[.int .u8 0] 5)).ow _ _ _ rfl rfl (at_bytes w3 [0]) (by simp; omega) ((S3.out.alloc (.cells #[.int .u8 0] 5)).sz) ?_; intro v4 w4 hO4 hg4; have S4 := Lib.hid ((S3.out.alloc (.cells #[.int .u8 0] 5)).grown hO4 hg4); obtain ⟨a4, n4, hv4⟩ := hO4.slice; simp only [List.length_append, List.length_cons, List.length_nil, Nat.zero_add, Nat.reduceAdd] at hv4; subst hv4; have C4 := S4.out.cells; have t3 := C4.c3; have tt := C4.lt; clear hO4 hg4 C4)
           | (at_builtin; refine wpList_app_str rfl (.tmp 49) (.tmp 51) rfl (w.heap.size + 1) _ (acc ++ [0, 0] ++ ty ++ [0]) la rfl S4.out.ow rfl (by simp; omega) S4.out.sz ?_; intro v5 w5 hO5 hg5; have S5 := Lib.hid (S4.out.grown hO5 hg5); have hback := hO5.back; obtain ⟨a5, n5, hv5⟩ := hO5.slice; simp only [List.length_append, List.length_cons, List.length_nil, Nat.zero_add, Nat.reduceAdd] at hv5; subst hv5; clear hO5 hg5))
         go_ret2
         rw [HE.out, HX.out]
         exact ⟨by simp, S5.out.bw⟩
   · have HE : Hid (entryN ⟨k, tx, ty, la⟩ = (tx, 0)) := Lib.hid (by unfold entryN entryS; rw [if_neg (by simp [htn]), if_neg hk])
     have e1 : (k != 3) = true := bne_iff_ne.2 hk
     clear hk htn
     go_enter Tryz.func7, Tryz.ntmps7
     go_wp2_with (go_at_call 28; (with_reducible refine (CH.out _).mono ?_); rintro e w1 ⟨rfl, hb1⟩; have S1 := Lib.hid (S0.out w1 hb1); have C := S1.out.cells; have x0 := C.c0; have x1 := C.c1; have lt0 := C.lt; clear hb1 C)
     go_ret2
     rw [HE.out]
     exact ⟨rfl, S1.out.bw⟩
 · have HE : Hid (entryN ⟨k, tx, ty, la⟩ = ([], tn)) := Lib.hid (by unfold entryN; rw [htn, if_pos hn])
   have e0 : (tn != 0) = true := bne_iff_ne.2 hn
   clear hn htn
   go_enter Tryz.func7, Tryz.ntmps7
   go_wp2_with (go_at_call 28; (with_reducible refine (CH.out _).mono ?_); rintro e w1 ⟨rfl, hb1⟩; have S1 := Lib.hid (S0.out w1 hb1); clear hb1)
   go_ret2
   rw [HE.out]
   exact ⟨rfl, S1.out.bw⟩
end Go.Proofs.YtfocpjcbfbbpgaaGreatDoor
