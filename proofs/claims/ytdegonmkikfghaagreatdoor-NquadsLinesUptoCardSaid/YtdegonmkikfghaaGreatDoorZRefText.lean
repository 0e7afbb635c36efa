/-
  tesseraref07.angled, Text: contracts. By an AI agent.
-/
import Derived.Test.YtdegonmkikfghaaGreatDoorZRefEsc1
import Derived.Test.YtdegonmkikfghaaGreatDoorZTextW
import Derived.Test.YtdegonmkikfghaaGreatDoorZTermD
import Derived.Test.YtdegonmkikfghaaGreatDoorZNqText
import Derived.Test.YtdegonmkikfghaaGreatDoorZRefQuadW
import Derived.Test.YtdegonmkikfghaaGreatDoorZBOwn
namespace Go.Proofs.YtdegonmkikfghaaGreatDoor
open Go.RowKit
set_option maxRecDepth 100000
theorem cat_r2 (a b : UInt8) (m : List UInt8) : B m ++ (⟨#[a, b]⟩ : ByteArray) = B (m ++ [a, b]) := B_append m [a, b]
set_option maxHeartbeats 1600000 in
theorem refAngled_l (t : List UInt8) (w : World) (hl : t.length <= 16777216) (hu : utfF t 0 = -1) :
   Calls Tryz.prog 67 #[.string (B t)] w fun e w' => e = .returned (.string (B (angF t))) /\ Below w.heap.size w w' := by
 have ES := Lib.hid (fun u => refEsc_ok 2 t u hl hu)
 have hle : (escF 2 t 0).length <= 100663296 := by have := escF_len 2 t t.length 0 (by omega); omega
 have AC := Lib.hid (ang_cat (escF 2 t 0))
 clear hu
 go_enter Tryz.func67, Tryz.ntmps67
 go_wp2_with (go_at_call 68; (with_reducible refine (ES.out _).mono ?_); rintro e w1 ⟨rfl, hb⟩; have HB := Lib.hid (hb.alloc hb.size (.cells #[.int .i64 0, .int .i64 0] 125)); clear hb)
 go_ret
 refine ⟨?_, HB.out⟩
 first | exact congrArg (fun s => Ending.returned (.string s)) AC.out | rfl
set_option maxHeartbeats 3200000 in
theorem refTermText_l (t : TermL) (w : World) (h1 : t.text.length <= 1048576) (h2 : t.type.length <= 1048576) (h3 : t.lang.length <= 1048576) :
   Calls Tryz.prog 42 #[termV t] w fun e w' => e = .returned (textV (textN t)) /\ Below w.heap.size w w' := by
 have CK := Lib.hid (fun u => refCheck_l t u h1 h2 h3)
 obtain ⟨k, tx, ty, la⟩ := t
 simp only at h1 h2 h3
 unfold termV at CK ⊢
 simp only at CK ⊢
 have BA : Hid (Below w.heap.size w (w.alloc (.cells #[.int .i64 k, .string (B tx), .string (B ty), .string (B la)] 34))) := Lib.hid ((Below.refl _ _).alloc (Nat.le_refl _) _)
 by_cases hn : termN ⟨k, tx, ty, la⟩ = 0
 · rw [hn] at CK
   rcases term_cases hn with ⟨hk, -, -, hi⟩ | ⟨hk, -, -, -, -⟩ | ⟨hk, hl⟩
   · simp only at hk hi
     subst hk
     have AN := Lib.hid (fun u => refAngled_l tx u (by omega) (utf_of_iri hi))
     have HE := Lib.hid (textN_ok hn (s := B (angF tx)) (by unfold textF; rw [if_pos rfl]))
     clear hn hi
     go_enter Tryz.func42, Tryz.ntmps42
     go_wp2_with (first | (go_at_call 66; (refine (CK.out _).mono ?_); rintro e w1 ⟨rfl, hb⟩; have kk := box4_kept hb; obtain ⟨c0, c1, c2, c3⟩ := kk; have HB1 := Lib.hid hb; clear hb) | (go_at_call 67; (with_reducible refine (AN.out _).mono ?_); rintro e w3 ⟨rfl, hb⟩; have HB3 := Lib.hid (HB1.out.trans (hb.mono HB1.out.size)); clear hb))
     go_ret2
     exact ⟨HE.out.symm, BA.out.trans (HB3.out.mono BA.out.size)⟩
   · simp only at hk
     subst hk
     have HE := Lib.hid (textN_ok hn (s := B (95 :: 58 :: tx)) (by unfold textF; rw [if_neg (by simp), if_pos rfl]))
     have CC := cat_2 95 58 tx
     clear hn
     go_enter Tryz.func42, Tryz.ntmps42
     go_wp2_with (go_at_call 66; (refine (CK.out _).mono ?_); rintro e w1 ⟨rfl, hb⟩; have kk := box4_kept hb; obtain ⟨c0, c1, c2, c3⟩ := kk; have HB1 := Lib.hid hb; clear hb)
     go_ret2
     exact ⟨HE.out.symm, BA.out.trans (HB1.out.mono BA.out.size)⟩
   · simp only at hk
     subst hk
     obtain ⟨-, hu, hi, hc⟩ := lit_cases hl
     simp only at hu hi hc
     have ES := Lib.hid (fun u => refEsc_ok 1 tx u (by omega) hu)
     have AN := Lib.hid (fun u => refAngled_l ty u (by omega) (utf_of_iri hi))
     have hle : (escF 1 tx 0).length <= 6291456 := by have := escF_len 1 tx tx.length 0 (by omega); omega
     have hlf : (angF ty).length <= 6291458 := by have := escF_len 2 ty ty.length 0 (by omega); unfold angF; simp; omega
     have CC := cat_l 34 (escF 1 tx 0)
     have CD := cat_r 34 (34 :: escF 1 tx 0)
     by_cases hla : la = []
     · have s1 : la.isEmpty = true := by rw [hla]; rfl
       by_cases hty : ty = plainT
       · have s3 : (ty == plainT) = true := beq_iff_eq.2 hty
         have HE := Lib.hid (textN_ok hn (s := B (34 :: escF 1 tx 0 ++ [34])) (by unfold textF; rw [if_neg (by simp), if_neg (by simp)]; simp [hla, hty]))
         unfold plainT at s3
         clear hn hu hi hc hl hla hty AN
         go_enter Tryz.func42, Tryz.ntmps42
         go_wp2_with (first | (go_at_call 66; (refine (CK.out _).mono ?_); rintro e w1 ⟨rfl, hb⟩; have kk := box4_kept hb; obtain ⟨c0, c1, c2, c3⟩ := kk; have HB1 := Lib.hid hb; clear hb) | (go_at_call 68; (with_reducible refine (ES.out _).mono ?_); rintro e w2 ⟨rfl, hb0⟩; have hb := hb0.alloc hb0.size (.cells #[.int .i64 0, .int .i64 0] 125); clear hb0; have kk := box4_kept (HB1.out.trans (hb.mono HB1.out.size)); clear c0 c1 c2 c3; obtain ⟨c0, c1, c2, c3⟩ := kk; have HB2 := Lib.hid (HB1.out.trans (hb.mono HB1.out.size)); clear hb))
         go_ret2
         exact ⟨HE.out.symm, BA.out.trans (HB2.out.mono BA.out.size)⟩
       · have s3 : (ty == plainT) = false := beq_eq_false_iff_ne.2 hty
         have CE := cat_r2 94 94 (34 :: (escF 1 tx 0 ++ [34]))
         have HE := Lib.hid (textN_ok hn (s := B (34 :: (escF 1 tx 0 ++ 34 :: 94 :: 94 :: angF ty))) (by unfold textF; rw [if_neg (by simp), if_neg (by simp)]; simp [hla, hty]))
         unfold plainT at s3
         clear hn hu hi hc hl hla hty
         go_enter Tryz.func42, Tryz.ntmps42
         go_wp2_with (first | (go_at_call 66; (refine (CK.out _).mono ?_); rintro e w1 ⟨rfl, hb⟩; have kk := box4_kept hb; obtain ⟨c0, c1, c2, c3⟩ := kk; have HB1 := Lib.hid hb; clear hb) | (go_at_call 68; (with_reducible refine (ES.out _).mono ?_); rintro e w2 ⟨rfl, hb0⟩; have hb := hb0.alloc hb0.size (.cells #[.int .i64 0, .int .i64 0] 125); clear hb0; have kk := box4_kept (HB1.out.trans (hb.mono HB1.out.size)); clear c0 c1 c2 c3; obtain ⟨c0, c1, c2, c3⟩ := kk; have HB2 := Lib.hid (HB1.out.trans (hb.mono HB1.out.size)); clear hb) | (go_at_call 67; (with_reducible refine (AN.out _).mono ?_); rintro e w3 ⟨rfl, hb⟩; have HB3 := Lib.hid (HB2.out.trans (hb.mono HB2.out.size)); clear hb))
         go_ret2
         exact ⟨HE.out.symm, BA.out.trans (HB3.out.mono BA.out.size)⟩
     · have s1 : la.isEmpty = false := by cases la with | nil => exact absurd rfl hla | cons => rfl
       have CE := cat_r 64 (34 :: (escF 1 tx 0 ++ [34]))
       have HE := Lib.hid (textN_ok hn (s := B (34 :: (escF 1 tx 0 ++ 34 :: 64 :: la))) (by unfold textF; rw [if_neg (by simp), if_neg (by simp)]; simp [hla]))
       clear hn hu hi hc hl hla AN
       go_enter Tryz.func42, Tryz.ntmps42
       go_wp2_with (first | (go_at_call 66; (refine (CK.out _).mono ?_); rintro e w1 ⟨rfl, hb⟩; have kk := box4_kept hb; obtain ⟨c0, c1, c2, c3⟩ := kk; have HB1 := Lib.hid hb; clear hb) | (go_at_call 68; (with_reducible refine (ES.out _).mono ?_); rintro e w2 ⟨rfl, hb0⟩; have hb := hb0.alloc hb0.size (.cells #[.int .i64 0, .int .i64 0] 125); clear hb0; have kk := box4_kept (HB1.out.trans (hb.mono HB1.out.size)); clear c0 c1 c2 c3; obtain ⟨c0, c1, c2, c3⟩ := kk; have HB2 := Lib.hid (HB1.out.trans (hb.mono HB1.out.size)); clear hb))
       go_ret2
       exact ⟨HE.out.symm, BA.out.trans (HB2.out.mono BA.out.size)⟩
 · obtain ⟨n, hN⟩ : ∃ n, termN ⟨k, tx, ty, la⟩ = n := ⟨_, rfl⟩
   rw [hN] at CK hn
   have HE := Lib.hid (textN_bad hN hn)
   have e0 : (n == 0) = false := beq_eq_false_iff_ne.2 hn
   have e1 : (n != 0) = true := bne_iff_ne.2 hn
   clear hN hn
   go_enter Tryz.func42, Tryz.ntmps42
   go_wp2_with (go_at_call 66; (refine (CK.out _).mono ?_); rintro e w1 ⟨rfl, hb⟩; have kk := box4_kept hb; obtain ⟨c0, c1, c2, c3⟩ := kk; have HB1 := Lib.hid hb; clear hb)
   go_ret2
   exact ⟨HE.out.symm, BA.out.trans (HB1.out.mono BA.out.size)⟩
end Go.Proofs.YtdegonmkikfghaaGreatDoor
namespace Go.Proofs.YtdegonmkikfghaaGreatDoor
open Go.RowKit
set_option maxRecDepth 100000
theorem refTermText_ok {t : TermL} (h : termN t = 0) (w : World) (h1 : t.text.length <= 1048576) (h2 : t.type.length <= 1048576) (h3 : t.lang.length <= 1048576) :
   Calls Tryz.prog 42 #[.agg #[.int .i64 t.kind, .string (B t.text), .string (B t.type), .string (B t.lang)]] w fun e w' => e = .returned (.tuple #[.string (B (textF t)), .int .i64 0]) /\ Below w.heap.size w w' :=
 (refTermText_l t w h1 h2 h3).mono fun e w' hh => by
   refine ⟨?_, hh.2⟩
   rw [hh.1]
   unfold textN textV
   rw [if_neg (by rw [h]; simp)]
theorem row_quad (w : World) (q : QuadL) (T : TypeId) : RowAt (w.alloc (.cells #[.int .i64 q.s.kind, .string (B q.s.text), .string (B q.s.type), .string (B q.s.lang), .int .i64 q.p.kind, .string (B q.p.text), .string (B q.p.type), .string (B q.p.lang), .int .i64 q.o.kind, .string (B q.o.text), .string (B q.o.type), .string (B q.o.lang), .int .i64 q.g.kind, .string (B q.g.text), .string (B q.g.type), .string (B q.g.lang)] T)) w.heap.size (quadC q) := rowAt_of_heap (L := quadC q) (t := T) (heap_alloc_new _ _)
set_option maxHeartbeats 6400000 in
theorem ref09Text_l (q : QuadL) (w : World) (hS : Short q) :
   Calls Tryz.prog 19 #[.agg #[.int .i64 q.s.kind, .string (B q.s.text), .string (B q.s.type), .string (B q.s.lang), .int .i64 q.p.kind, .string (B q.p.text), .string (B q.p.type), .string (B q.p.lang), .int .i64 q.o.kind, .string (B q.o.text), .string (B q.o.type), .string (B q.o.lang), .int .i64 q.g.kind, .string (B q.g.text), .string (B q.g.type), .string (B q.g.lang)]] w fun e w' => e = .returned (.tuple #[.string (B (lineN q).1), .int .i64 (lineN q).2]) /\ Below w.heap.size w w' := by
 have CQ := Lib.hid (fun (u : World) => refCheckQuad_l q u hS)
 have BA : Hid (Below w.heap.size w (w.alloc (.cells #[.int .i64 q.s.kind, .string (B q.s.text), .string (B q.s.type), .string (B q.s.lang), .int .i64 q.p.kind, .string (B q.p.text), .string (B q.p.type), .string (B q.p.lang), .int .i64 q.o.kind, .string (B q.o.text), .string (B q.o.type), .string (B q.o.lang), .int .i64 q.g.kind, .string (B q.g.text), .string (B q.g.type), .string (B q.g.lang)] 36))) := Lib.hid ((Below.refl _ _).alloc (Nat.le_refl _) _)
 have HRW := Lib.hid (fun (u : World) (h : Below (w.alloc (.cells #[.int .i64 q.s.kind, .string (B q.s.text), .string (B q.s.type), .string (B q.s.lang), .int .i64 q.p.kind, .string (B q.p.text), .string (B q.p.type), .string (B q.p.lang), .int .i64 q.o.kind, .string (B q.o.text), .string (B q.o.type), .string (B q.o.lang), .int .i64 q.g.kind, .string (B q.g.text), .string (B q.g.type), .string (B q.g.lang)] 36)).heap.size (w.alloc (.cells #[.int .i64 q.s.kind, .string (B q.s.text), .string (B q.s.type), .string (B q.s.lang), .int .i64 q.p.kind, .string (B q.p.text), .string (B q.p.type), .string (B q.p.lang), .int .i64 q.o.kind, .string (B q.o.text), .string (B q.o.type), .string (B q.o.lang), .int .i64 q.g.kind, .string (B q.g.text), .string (B q.g.type), .string (B q.g.lang)] 36)) u) => range_row ((h.block w.heap.size (by simp)).trans (heap_alloc_new w (.cells #[.int .i64 q.s.kind, .string (B q.s.text), .string (B q.s.type), .string (B q.s.lang), .int .i64 q.p.kind, .string (B q.p.text), .string (B q.p.type), .string (B q.p.lang), .int .i64 q.o.kind, .string (B q.o.text), .string (B q.o.type), .string (B q.o.lang), .int .i64 q.g.kind, .string (B q.g.text), .string (B q.g.type), .string (B q.g.lang)] 36))))
 by_cases hq : quadN q = 0
 · have HE : Hid (lineN q = (lineF q, 0)) := Lib.hid (by unfold lineN; rw [if_neg (by rw [hq]; simp)])
   have TX := Lib.hid (fun (t : TermL) (ht : t = q.s \/ t = q.p \/ t = q.o \/ t = q.g) (hk : t.kind ≠ 0) (u : World) => refTermText_ok (quad_term_ok hq t ht hk) u (hS t ht).1 (hS t ht).2.1 (hS t ht).2.2)
   have LN := Lib.hid (fun (t : TermL) (ht : t = q.s \/ t = q.p \/ t = q.o \/ t = q.g) => textF_le (hS t ht).1 (hS t ht).2.1 (hS t ht).2.2)
   have RN := Lib.hid (fun (u : World) => row_quad u q 72)
   rw [hq] at CQ
   clear hq hS
   go_enter Tryz.func19, Tryz.ntmps19
   go_wp2_with (go_at_call 41; (with_reducible refine (CQ.out _).mono ?_); rintro e w2 ⟨rfl, hb2⟩; have HR := HRW.out _ hb2; obtain ⟨h0, h1, h2, h3, h4, h5, h6, h7, h8, h9, h10, h11, h12, h13, h14, h15⟩ := cells16 HR; simp only [Nat.zero_add] at h1 h2 h3 h4 h5 h6 h7 h8 h9 h10 h11 h12 h13 h14 h15; have HB2 := Lib.hid (BA.out.trans (hb2.mono BA.out.size)); clear hb2 HR)
   go_loopw [5, 7] (fun s z wr => ∃ (k : Nat) (zi : Int), zi = k /\ z = .int .i64 zi /\ k <= 4 /\ s = .string (B (partsF q k)) /\ Hid (RowAt wr w2.heap.size (quadC q)) /\ Hid (Below w.heap.size w wr) /\ w.heap.size <= wr.heap.size) (fun _ z _ => 4 - (intOf z).toNat)
   case atStart => exact ⟨0, 0, rfl, rfl, by omega, rfl, Lib.hid (RN.out w2), Lib.hid (HB2.out.alloc HB2.out.size _), by have := HB2.out.size; simp; omega⟩
   case round =>
     obtain ⟨k, z, hz, rfl, hk, rfl, HR, HB, hsz⟩ := hrel
     clear h0 h1 h2 h3 h4 h5 h6 h7 h8 h9 h10 h11 h12 h13 h14 h15 HB2 RN BA HRW CQ
     have ck : k = 0 \/ k = 1 \/ k = 2 \/ k = 3 \/ k = 4 := by omega
     have hpl := partsF_le q k (fun t ht => LN.out t ht)
     rcases ck with rfl | rfl | rfl | rfl | rfl
     · obtain rfl : z = 0 := by simpa using hz
       have x0 : wr.cell? ⟨w2.heap.size, 0, none⟩ = some (.int .i64 q.s.kind) := HR.out.cell (j := 0) (by simp [quadC, termC])
       have x1 : wr.cell? ⟨w2.heap.size, 1, none⟩ = some (.string (B q.s.text)) := HR.out.cell (j := 1) (by simp [quadC, termC])
       have x2 : wr.cell? ⟨w2.heap.size, 2, none⟩ = some (.string (B q.s.type)) := HR.out.cell (j := 2) (by simp [quadC, termC])
       have x3 : wr.cell? ⟨w2.heap.size, 3, none⟩ = some (.string (B q.s.lang)) := HR.out.cell (j := 3) (by simp [quadC, termC])
       have hst := partsF_1 q
       simp only [Nat.reduceAdd] at hst
       have hlt := LN.out q.s (.inl rfl)
       obtain ⟨p, hp⟩ : ∃ p, partsF q 0 = p := ⟨_, rfl⟩
       rw [hp] at hst hpl ⊢
       clear hp hz
       by_cases hk0 : q.s.kind = 0
       · have e0 : (q.s.kind != 0) = false := by rw [hk0]; rfl
         rw [if_pos hk0, List.append_nil] at hst
         have HS := Lib.hid hst
         clear hst hk0 TX
         go_wp2_with fail
         go_roundw
         case rel => exact ⟨1, 1, rfl, by go_num, by omega, by rw [HS.out], HR, HB, by omega⟩
         case measure => simp [intOf]
       · have e0 : (q.s.kind != 0) = true := bne_iff_ne.2 hk0
         rw [if_neg hk0] at hst
         have HS := Lib.hid hst
         have TX2 := Lib.hid (TX.out q.s (.inl rfl) hk0)
         have CS := cat_sp (p ++ textF q.s)
         clear hst hk0 TX
         go_wp2_with (go_at_call 42; (with_reducible refine (TX2.out _).mono ?_); rintro e w3 ⟨rfl, hb3⟩; have HR3 := Lib.hid (rowAt_below HR.out hb3); have HB3 := Lib.hid (HB.out.trans (hb3.mono HB.out.size)); have hs3 := hb3.size; clear hb3)
         go_roundw
         case rel => exact ⟨1, 1, rfl, by go_num, by omega, by rw [HS.out], HR3, HB3, by omega⟩
         case measure => simp [intOf]
     · obtain rfl : z = 1 := by simpa using hz
       have x0 : wr.cell? ⟨w2.heap.size, 4, none⟩ = some (.int .i64 q.p.kind) := HR.out.cell (j := 4) (by simp [quadC, termC])
       have x1 : wr.cell? ⟨w2.heap.size, 5, none⟩ = some (.string (B q.p.text)) := HR.out.cell (j := 5) (by simp [quadC, termC])
       have x2 : wr.cell? ⟨w2.heap.size, 6, none⟩ = some (.string (B q.p.type)) := HR.out.cell (j := 6) (by simp [quadC, termC])
       have x3 : wr.cell? ⟨w2.heap.size, 7, none⟩ = some (.string (B q.p.lang)) := HR.out.cell (j := 7) (by simp [quadC, termC])
       have hst := partsF_2 q
       simp only [Nat.reduceAdd] at hst
       have hlt := LN.out q.p (.inr (.inl rfl))
       obtain ⟨p, hp⟩ : ∃ p, partsF q 1 = p := ⟨_, rfl⟩
       rw [hp] at hst hpl ⊢
       clear hp hz
       by_cases hk0 : q.p.kind = 0
       · have e0 : (q.p.kind != 0) = false := by rw [hk0]; rfl
         rw [if_pos hk0, List.append_nil] at hst
         have HS := Lib.hid hst
         clear hst hk0 TX
         go_wp2_with fail
         go_roundw
         case rel => exact ⟨2, 2, rfl, by go_num, by omega, by rw [HS.out], HR, HB, by omega⟩
         case measure => simp [intOf]
       · have e0 : (q.p.kind != 0) = true := bne_iff_ne.2 hk0
         rw [if_neg hk0] at hst
         have HS := Lib.hid hst
         have TX2 := Lib.hid (TX.out q.p (.inr (.inl rfl)) hk0)
         have CS := cat_sp (p ++ textF q.p)
         clear hst hk0 TX
         go_wp2_with (go_at_call 42; (with_reducible refine (TX2.out _).mono ?_); rintro e w3 ⟨rfl, hb3⟩; have HR3 := Lib.hid (rowAt_below HR.out hb3); have HB3 := Lib.hid (HB.out.trans (hb3.mono HB.out.size)); have hs3 := hb3.size; clear hb3)
         go_roundw
         case rel => exact ⟨2, 2, rfl, by go_num, by omega, by rw [HS.out], HR3, HB3, by omega⟩
         case measure => simp [intOf]
     · obtain rfl : z = 2 := by simpa using hz
       have x0 : wr.cell? ⟨w2.heap.size, 8, none⟩ = some (.int .i64 q.o.kind) := HR.out.cell (j := 8) (by simp [quadC, termC])
       have x1 : wr.cell? ⟨w2.heap.size, 9, none⟩ = some (.string (B q.o.text)) := HR.out.cell (j := 9) (by simp [quadC, termC])
       have x2 : wr.cell? ⟨w2.heap.size, 10, none⟩ = some (.string (B q.o.type)) := HR.out.cell (j := 10) (by simp [quadC, termC])
       have x3 : wr.cell? ⟨w2.heap.size, 11, none⟩ = some (.string (B q.o.lang)) := HR.out.cell (j := 11) (by simp [quadC, termC])
       have hst := partsF_3 q
       simp only [Nat.reduceAdd] at hst
       have hlt := LN.out q.o (.inr (.inr (.inl rfl)))
       obtain ⟨p, hp⟩ : ∃ p, partsF q 2 = p := ⟨_, rfl⟩
       rw [hp] at hst hpl ⊢
       clear hp hz
       by_cases hk0 : q.o.kind = 0
       · have e0 : (q.o.kind != 0) = false := by rw [hk0]; rfl
         rw [if_pos hk0, List.append_nil] at hst
         have HS := Lib.hid hst
         clear hst hk0 TX
         go_wp2_with fail
         go_roundw
         case rel => exact ⟨3, 3, rfl, by go_num, by omega, by rw [HS.out], HR, HB, by omega⟩
         case measure => simp [intOf]
       · have e0 : (q.o.kind != 0) = true := bne_iff_ne.2 hk0
         rw [if_neg hk0] at hst
         have HS := Lib.hid hst
         have TX2 := Lib.hid (TX.out q.o (.inr (.inr (.inl rfl))) hk0)
         have CS := cat_sp (p ++ textF q.o)
         clear hst hk0 TX
         go_wp2_with (go_at_call 42; (with_reducible refine (TX2.out _).mono ?_); rintro e w3 ⟨rfl, hb3⟩; have HR3 := Lib.hid (rowAt_below HR.out hb3); have HB3 := Lib.hid (HB.out.trans (hb3.mono HB.out.size)); have hs3 := hb3.size; clear hb3)
         go_roundw
         case rel => exact ⟨3, 3, rfl, by go_num, by omega, by rw [HS.out], HR3, HB3, by omega⟩
         case measure => simp [intOf]
     · obtain rfl : z = 3 := by simpa using hz
       have x0 : wr.cell? ⟨w2.heap.size, 12, none⟩ = some (.int .i64 q.g.kind) := HR.out.cell (j := 12) (by simp [quadC, termC])
       have x1 : wr.cell? ⟨w2.heap.size, 13, none⟩ = some (.string (B q.g.text)) := HR.out.cell (j := 13) (by simp [quadC, termC])
       have x2 : wr.cell? ⟨w2.heap.size, 14, none⟩ = some (.string (B q.g.type)) := HR.out.cell (j := 14) (by simp [quadC, termC])
       have x3 : wr.cell? ⟨w2.heap.size, 15, none⟩ = some (.string (B q.g.lang)) := HR.out.cell (j := 15) (by simp [quadC, termC])
       have hst := partsF_4 q
       simp only [Nat.reduceAdd] at hst
       have hlt := LN.out q.g (.inr (.inr (.inr rfl)))
       obtain ⟨p, hp⟩ : ∃ p, partsF q 3 = p := ⟨_, rfl⟩
       rw [hp] at hst hpl ⊢
       clear hp hz
       by_cases hk0 : q.g.kind = 0
       · have e0 : (q.g.kind != 0) = false := by rw [hk0]; rfl
         rw [if_pos hk0, List.append_nil] at hst
         have HS := Lib.hid hst
         clear hst hk0 TX
         go_wp2_with fail
         go_roundw
         case rel => exact ⟨4, 4, rfl, by go_num, by omega, by rw [HS.out], HR, HB, by omega⟩
         case measure => simp [intOf]
       · have e0 : (q.g.kind != 0) = true := bne_iff_ne.2 hk0
         rw [if_neg hk0] at hst
         have HS := Lib.hid hst
         have TX2 := Lib.hid (TX.out q.g (.inr (.inr (.inr rfl))) hk0)
         have CS := cat_sp (p ++ textF q.g)
         clear hst hk0 TX
         go_wp2_with (go_at_call 42; (with_reducible refine (TX2.out _).mono ?_); rintro e w3 ⟨rfl, hb3⟩; have HR3 := Lib.hid (rowAt_below HR.out hb3); have HB3 := Lib.hid (HB.out.trans (hb3.mono HB.out.size)); have hs3 := hb3.size; clear hb3)
         go_roundw
         case rel => exact ⟨4, 4, rfl, by go_num, by omega, by rw [HS.out], HR3, HB3, by omega⟩
         case measure => simp [intOf]
     · obtain rfl : z = 4 := by simpa using hz
       have CD := cat_dot (partsF q 4)
       have HL := Lib.hid (lineF_parts q)
       obtain ⟨p, hp⟩ : ∃ p, partsF q 4 = p := ⟨_, rfl⟩
       rw [hp] at hpl CD HL ⊢
       clear hp hz TX
       go_wp2_with fail
       go_ret2
       rw [HE.out, HL.out]
       exact ⟨rfl, HB.out⟩
 · obtain ⟨n, hn⟩ : ∃ n, quadN q = n := ⟨_, rfl⟩
   have HE : Hid (lineN q = ([], n)) := Lib.hid (by unfold lineN; rw [if_pos hq, hn])
   rw [hn] at CQ hq
   have q8 : (n != 0) = true := bne_iff_ne.2 hq
   clear hq hn hS
   go_enter Tryz.func19, Tryz.ntmps19
   go_wp2_with (go_at_call 41; (with_reducible refine (CQ.out _).mono ?_); rintro e w2 ⟨rfl, hb2⟩; have HB2 := Lib.hid (BA.out.trans (hb2.mono BA.out.size)); clear hb2)
   go_ret2
   rw [HE.out]
   exact ⟨rfl, HB2.out⟩
end Go.Proofs.YtdegonmkikfghaaGreatDoor
