/-
  The reader of N-Quads: sees, wrong: contracts. By an AI agent.
-/
import Derived.Test.YtmnigckpejcaeaaGreatDoorZRdW0
import Derived.Test.YtmnigckpejcaeaaGreatDoorZNextW2
import Derived.Test.YtmnigckpejcaeaaGreatDoorZEsc0
import Derived.Test.YtmnigckpejcaeaaGreatDoorZLoadQ
namespace Go.Proofs.YtmnigckpejcaeaaGreatDoor
open Go.RowKit
set_option maxRecDepth 100000
theorem contains_ix (b : UInt8) : ∀ (l : List UInt8), l.contains b = decide (0 <= Lib.indexByte l b)
 | [] => rfl
 | a :: r => by
   have ih := contains_ix b r
   have hge := Lib.indexByte_ge r b
   unfold Lib.indexByte
   rw [List.contains_cons]
   by_cases h : a = b
   · subst h; simp
   · rw [beq_eq_false_iff_ne.2 (fun e => h e.symm), beq_eq_false_iff_ne.2 h, ih]
     by_cases h2 : Lib.indexByte r b = -1
     · simp [h2]
     · rw [if_neg (by simp), if_neg (by simpa using h2)]
       simp
       omega
theorem err_newP {w : World} {p G : Nat} {P n : Int} (hP : (p : Int) = P) (hG : G = w.heap.size) : ErrIs (w.alloc (.cells #[.int .i64 P, .iface 28 (.int .i64 n)] 79)) (.iface 77 (.pointer (some ⟨G, 0, none⟩))) (.inr (p, n)) := by
 subst hP hG
 exact err_new w p n
def seesB (l : List UInt8) (i : Nat) (s : List UInt8) : Bool := decide (i < l.length) && s.contains (l.getD i 0)
set_option maxHeartbeats 1600000 in
theorem rdSees_l (l : List UInt8) (b i : Nat) (s : ByteArray) (w : World) (hr : RdAt w b l i) (_hl : l.length <= 4611686018427387904) :
   Calls Tryz.prog 118 #[.pointer (some ⟨b, 0, none⟩), .string s] w fun e w' => e = .returned (.bool (seesB l i s.data.toList)) /\ Below w.heap.size w w' := by
 obtain ⟨c0, c1, f1⟩ := hr
 by_cases hlt : i < l.length
 · have e1 : decide (i < l.length) = true := decide_eq_true hlt
   have e1' : decide ((i : Int) < (l.length : Int)) = true := decide_eq_true (by omega)
   have j0 : 0 <= (i : Int) := by omega
   have j1 : (i : Int) < (l.length : Int) := by omega
   obtain ⟨k, hk⟩ : ∃ k, Lib.indexByte s.data.toList ((l[i].toNat : Int).toNat.toUInt8) = k := ⟨_, rfl⟩
   have IX := Lib.hid (fun u => ix_at s (l[i].toNat : Int) k hk u)
   have HB : Hid (seesB l i s.data.toList = decide (0 <= k)) := Lib.hid (by
     unfold seesB
     rw [e1, getD_at hlt, contains_ix, <- hk]
     simp)
   clear hk
   go_enter Tryz.func118, Tryz.ntmps118
   go_wp2_with fail
   go_quiet ((go_at_call 152; exact Calls.quiet_of_same (IX.out _)))
   go_wp2_with fail
   go_ret
   rw [HB.out]
   exact ⟨rfl, below_drewN _ _⟩
 · have e1 : decide (i < l.length) = false := decide_eq_false hlt
   have e1' : decide ((i : Int) < (l.length : Int)) = false := decide_eq_false (by omega)
   have HB : Hid (seesB l i s.data.toList = false) := Lib.hid (by unfold seesB; rw [e1]; rfl)
   go_enter Tryz.func118, Tryz.ntmps118
   go_wp2_with fail
   go_quiet (fail)
   go_wp2_with fail
   go_ret
   rw [HB.out]
   exact ⟨rfl, below_drewN _ _⟩
theorem utfF_le (l : List UInt8) (M : Nat) (hM : l.length <= M) : ∀ (k j : Nat), l.length - j <= k -> utfF l j <= (M : Int)
 | k, j, hk => by
   by_cases h : l.length <= j
   · rw [utfF_end h]; omega
   obtain ⟨v, n, hq⟩ : ∃ v n, nextAt l (j : Int) = (v, n) := ⟨_, _, rfl⟩
   by_cases hn : n = 0
   · rw [utfF_bad (by omega) (hn ▸ hq)]; omega
   · rw [utfF_go (by omega) hq hn]
     match k, hk with
     | 0, hk => omega
     | k + 1, hk => exact utfF_le l M hM k (j + n) (by omega)
theorem rdWrong_l (l : List UInt8) (b i : Nat) (n : Int) (w : World) (hr : RdAt w b l i) :
   Calls Tryz.prog 154 #[.pointer (some ⟨b, 0, none⟩), .int .i64 n] w fun e w' => e = .returned (.iface 77 (.pointer (some ⟨w.heap.size, 0, none⟩))) /\ w' = w.alloc (.cells #[.int .i64 (i : Int), .iface 28 (.int .i64 n)] 79) := by
 obtain ⟨c0, c1, f1⟩ := hr
 go_enter Tryz.func154, Tryz.ntmps154
 go_wp2_with fail
 go_ret
 exact ⟨rfl, rfl⟩
structure RdTo (w w' : World) (b : Nat) (l : List UInt8) (i : Nat) : Prop where
 r : RdAt w' b l i
 g : w.grownBy w' (some b)
theorem RdTo.trans {w v u : World} {b i j : Nat} {l : List UInt8} (h : RdTo w v b l i) (h2 : RdTo v u b l j) : RdTo w u b l j := ⟨h2.r, grownR_trans h.g h2.g⟩
theorem RdTo.below {w v u : World} {b i : Nat} {l : List UInt8} (h : RdTo w v b l i) (hb : Below v.heap.size v u) : RdTo w u b l i := ⟨h.r.below hb, grownR_trans h.g (below_grown hb (some b))⟩
theorem rdTo_new {w u : World} {b i : Nat} {l : List UInt8} (hr : RdAt w b l i) (hb : Below w.heap.size w u) : RdTo w u b l i := ⟨hr.below hb, below_grown hb (some b)⟩
set_option maxHeartbeats 1600000 in
theorem rdRest_l (l : List UInt8) (b i : Nat) (w : World) (hr : RdAt w b l i) (hi : i <= l.length) (hl : l.length <= 16777216) :
   Calls Tryz.prog 120 #[.pointer (some ⟨b, 0, none⟩)] w fun e w' => (match restF' l i with
     | none => e = .returned .nilIface
     | some (p, n) => ∃ eb, e = .returned (.iface 77 (.pointer (some ⟨eb, 0, none⟩))) /\ ErrIs w' (.iface 77 (.pointer (some ⟨eb, 0, none⟩))) (.inr (p, n))) /\ w.grownBy w' (some b) := by
 have BL := Lib.hid (rdBlanks_l l b i w hr hi (by omega))
 have SE := Lib.hid (fun s u (h : RdAt u b l (blkF l i)) => rdSees_l l b (blkF l i) s u h (by omega))
 have WR := Lib.hid (fun n u (h : RdAt u b l (blkF l i)) => rdWrong_l l b (blkF l i) n u h)
 have hk := (blkF_bound l l.length i (by omega) hi).2
 obtain ⟨k, hk0⟩ : ∃ k, blkF l i = k := ⟨_, rfl⟩
 have HF : Hid (restF' l i = if l.length <= k then none else if l.getD k 0 ≠ 35 then some (k, 90) else if 0 <= utfF (l.drop k) 0 then some (k + (utfF (l.drop k) 0).toNat, 40) else none) := Lib.hid (by unfold restF'; rw [hk0])
 rw [hk0] at BL SE WR hk
 clear hk0 hr
 by_cases hend : k = l.length
 · have e1 : ((k : Int) == (l.length : Int)) = true := beq_iff_eq.2 (by omega)
   have HE : Hid (restF' l i = none) := Lib.hid (by rw [HF.out, if_pos (by omega)])
   rw [HE.out]
   clear hend HF
   go_enter Tryz.func120, Tryz.ntmps120
   go_wp2_with (go_at_call 117; (with_reducible refine BL.out.mono ?_); rintro e w1 ⟨rfl, hr, hg⟩; have HR := Lib.hid hr; have HG := Lib.hid hg; obtain ⟨c0, c1, f1⟩ := hr; clear hg)
   go_quiet (fail)
   go_wp2_with fail
   go_ret
   exact ⟨rfl, grown_drewN HG.out _⟩
 have hlt : k < l.length := by omega
 have j0 : 0 <= (k : Int) := by omega
 have j1 : (k : Int) <= (l.length : Int) := by omega
 have e1 : ((k : Int) == (l.length : Int)) = false := beq_eq_false_iff_ne.2 (by omega)
 rw [if_neg (by omega)] at HF
 clear hend
 by_cases h35 : l.getD k 0 = 35
 case neg =>
   have HE : Hid (restF' l i = some (k, 90)) := Lib.hid (by rw [HF.out, if_pos h35])
   rw [HE.out]
   have SX : Hid (seesB l k [35] = false) := Lib.hid (by unfold seesB; rw [List.contains_cons, beq_eq_false_iff_ne.2 h35]; simp)
   have SE2 : Hid (∀ u (_ : RdAt u b l k), Calls Tryz.prog 118 #[.pointer (some ⟨b, 0, none⟩), .string ⟨#[35]⟩] u fun e w' => e = .returned (.bool false) /\ Below u.heap.size u w') := Lib.hid (fun u h => SX.out ▸ SE.out ⟨#[35]⟩ u h)
   clear h35 HF SX
   go_enter Tryz.func120, Tryz.ntmps120
   go_wp2_with (go_at_call 117; (with_reducible refine BL.out.mono ?_); rintro e w1 ⟨rfl, hr, hg⟩; have HR := Lib.hid hr; have HT := Lib.hid (RdTo.mk hr hg); obtain ⟨c0, c1, f1⟩ := hr; clear hg)
   go_quiet (fail)
   go_wp2_with (first
     | (go_at_call 118; (refine (SE2.out _ (HR.out.drewN _)).mono ?_); rintro e w2 ⟨rfl, hb⟩; have HT2 := Lib.hid ((HT.out.below (below_drewN _ _)).below hb); clear hb)
     | (go_at_call 154; (refine (WR.out _ _ HT2.out.r).mono ?_); rintro e w3 ⟨rfl, rfl⟩))
   go_ret
   exact ⟨⟨_, rfl, err_new w2 k 90⟩, (HT2.out.below ((Below.refl _ _).alloc (Nat.le_refl _) _)).g⟩
 rw [if_neg (fun h => h h35)] at HF
 have SX : Hid (seesB l k [35] = true) := Lib.hid (by unfold seesB; rw [h35, decide_eq_true hlt]; rfl)
 have SE2 : Hid (∀ u (_ : RdAt u b l k), Calls Tryz.prog 118 #[.pointer (some ⟨b, 0, none⟩), .string ⟨#[35]⟩] u fun e w' => e = .returned (.bool true) /\ Below u.heap.size u w') := Lib.hid (fun u h => SX.out ▸ SE.out ⟨#[35]⟩ u h)
 have UC := Lib.hid (fun u => utfCheck_l (l.drop k) u (by simp; omega))
 have hub := utfF_or (l.drop k) (l.drop k).length 0 (by omega)
 have hul : utfF (l.drop k) 0 <= (l.length : Int) := utfF_le (l.drop k) l.length (by simp) (l.drop k).length 0 (by omega)
 obtain ⟨m, hm⟩ : ∃ m, utfF (l.drop k) 0 = m := ⟨_, rfl⟩
 rw [hm] at HF UC hub hul
 clear hm h35 SX SE
 by_cases h0 : 0 <= m
 · obtain ⟨q, rfl⟩ := Int.eq_ofNat_of_zero_le h0
   have e2 : decide ((0 : Int) <= (q : Int)) = true := decide_eq_true h0
   have HE : Hid (restF' l i = some (k + q, 40)) := Lib.hid (by rw [HF.out, if_pos h0]; rfl)
   rw [HE.out]
   have WR2 := Lib.hid (fun n u (h : RdAt u b l (k + q)) => rdWrong_l l b (k + q) n u h)
   clear h0 HF hub WR
   go_enter Tryz.func120, Tryz.ntmps120
   go_wp2_with (go_at_call 117; (with_reducible refine BL.out.mono ?_); rintro e w1 ⟨rfl, hr, hg⟩; have HR := Lib.hid hr; have HT := Lib.hid (RdTo.mk hr hg); obtain ⟨c0, c1, f1⟩ := hr; clear hg)
   go_quiet (fail)
   go_wp2_with (go_at_call 118; (refine (SE2.out _ (HR.out.drewN _)).mono ?_); rintro e w2 ⟨rfl, hb⟩; have HT2 := Lib.hid ((HT.out.below (below_drewN _ _)).below hb); clear hb c0 c1 f1; obtain ⟨c0, c1, f1⟩ := HT2.out.r)
   go_quiet ((go_at_call 136; exact Calls.quiet_of_same (UC.out _)))
   have HT3 := Lib.hid (fun n => RdTo.mk (by have := (HT2.out.r.drewN n).set (k + q); simpa using this) (grownR_trans (grown_drewN HT2.out.g n) (grownBy_setCell1 _ b 1 (.int .i64 ((k : Int) + (q : Int))))))
   go_wp2_with (go_at_call 154; (refine (WR2.out _ _ (HT3.out _).r).mono ?_); rintro e w3 ⟨rfl, rfl⟩)
   go_ret
   exact ⟨⟨_, rfl, err_newP (p := k + q) (by omega) (by simp)⟩, ((HT3.out _).below ((Below.refl _ _).alloc (Nat.le_refl _) _)).g⟩
 · have e2 : decide ((0 : Int) <= m) = false := decide_eq_false h0
   have HE : Hid (restF' l i = none) := Lib.hid (by rw [HF.out, if_neg h0])
   rw [HE.out]
   clear h0 HF hub WR
   go_enter Tryz.func120, Tryz.ntmps120
   go_wp2_with (go_at_call 117; (with_reducible refine BL.out.mono ?_); rintro e w1 ⟨rfl, hr, hg⟩; have HR := Lib.hid hr; have HT := Lib.hid (RdTo.mk hr hg); obtain ⟨c0, c1, f1⟩ := hr; clear hg)
   go_quiet (fail)
   go_wp2_with (go_at_call 118; (refine (SE2.out _ (HR.out.drewN _)).mono ?_); rintro e w2 ⟨rfl, hb⟩; have HT2 := Lib.hid ((HT.out.below (below_drewN _ _)).below hb); clear hb c0 c1 f1; obtain ⟨c0, c1, f1⟩ := HT2.out.r)
   go_quiet ((go_at_call 136; exact Calls.quiet_of_same (UC.out _)))
   go_wp2_with fail
   go_ret
   exact ⟨rfl, grown_drewN HT2.out.g _⟩
end Go.Proofs.YtmnigckpejcaeaaGreatDoor
namespace Go.Proofs.YtmnigckpejcaeaaGreatDoor
open Go.RowKit
set_option maxRecDepth 100000
def SlotPost (w w' : World) (b : Nat) (l : List UInt8) (e : Ending) : (TermL × Nat) ⊕ (Nat × Int) -> Prop
 | .inl (t, n) => e = .returned (.tuple #[.agg #[.int .i64 t.kind, .string (B t.text), .string (B t.type), .string (B t.lang)], .nilIface]) /\ RdTo w w' b l n
 | .inr (p, c) => ∃ eb, e = .returned (.tuple #[.agg #[.int .i64 0, .string ⟨#[]⟩, .string ⟨#[]⟩, .string ⟨#[]⟩], .iface 77 (.pointer (some ⟨eb, 0, none⟩))]) /\ ErrIs w' (.iface 77 (.pointer (some ⟨eb, 0, none⟩))) (.inr (p, c)) /\ w.grownBy w' (some b)
theorem err_set4G {W : World} {v : Value} {p g : Nat} {n : Int} {s : ByteArray} (h1 : W.cell? ⟨g, 1, none⟩ = some (.string s)) (h : ErrIs W v (.inr (p, n))) (a b c d : Value) : ErrIs (set4 W g a b c d) v (.inr (p, n)) := by
 have hne : ∀ b, v = .iface 77 (.pointer (some ⟨b, 0, none⟩)) -> b ≠ g := by
   rintro b rfl rfl
   obtain ⟨b, hb, _, h2⟩ := h
   cases hb
   rw [h1] at h2
   cases h2
 exact err_set (err_set (err_set (err_set h hne) hne) hne) hne
theorem cell_set4 (W : World) {r g : Nat} (hne : r ≠ g) (o : Nat) (a b c d : Value) : (set4 W g a b c d).cell? ⟨r, o, none⟩ = W.cell? ⟨r, o, none⟩ := by
 have h : ∀ o', (⟨r, o, none⟩ : Addr) ≠ ⟨g, o', none⟩ := fun o' e => hne (congrArg Addr.block e)
 unfold set4
 rw [World.cell?_setCell_other _ _ _ _ (fun e => h _ e.symm), World.cell?_setCell_other _ _ _ _ (fun e => h _ e.symm), World.cell?_setCell_other _ _ _ _ (fun e => h _ e.symm), World.cell?_setCell_other _ _ _ _ (fun e => h _ e.symm)]
theorem RowAt.other {w : World} {g g' o : Nat} {vs : List Value} (h : RowAt w g vs) (hne : g ≠ g') (v : Value) : RowAt (w.setCell ⟨g', o, none⟩ v) g vs := fun j hj =>
 ⟨by rw [World.cell?_setCell_other _ _ _ _ (fun e => hne (congrArg Addr.block e).symm)]; exact h.cell hj, by rw [World.frozen?_setCell]; exact h.free hj⟩
theorem RowAt.grows {w w' : World} {b g : Nat} {vs : List Value} (h : RowAt w g vs) (h0 : 0 < vs.length) (hg : w.grownBy w' (some b)) (hne : g ≠ b) : RowAt w' g vs := fun j hj => by
 have hlt : g < w.heap.size := World.block_lt_of_cell? _ _ (h.cell h0)
 have e := hg.block g hlt (by simpa using hne)
 refine ⟨?_, ?_⟩
 · rw [World.cell?_of_block e]; exact h.cell hj
 · have := h.free hj
   simp only [World.frozen?] at this ⊢
   rw [e]
   exact this
theorem ResT.row {w W : World} (h : ResT w W) : RowAt W w.heap.size [.int .i64 0, .string ⟨#[]⟩, .string ⟨#[]⟩, .string ⟨#[]⟩] := by
 intro j hj
 have hj4 : j = 0 \/ j = 1 \/ j = 2 \/ j = 3 := by simp at hj; omega
 rcases hj4 with rfl | rfl | rfl | rfl
 · exact ⟨h.c0, h.f0⟩
 · exact ⟨h.c1, h.f1⟩
 · exact ⟨h.c2, h.f2⟩
 · exact ⟨h.c3, h.f3⟩
theorem RowAt.four {w : World} {g : Nat} {a b c d : Value} (h : RowAt w g [a, b, c, d]) : w.cell? ⟨g, 0, none⟩ = some a /\ w.cell? ⟨g, 1, none⟩ = some b /\ w.cell? ⟨g, 2, none⟩ = some c /\ w.cell? ⟨g, 3, none⟩ = some d /\ w.frozen? ⟨g, 0, none⟩ = false /\ w.frozen? ⟨g, 1, none⟩ = false /\ w.frozen? ⟨g, 2, none⟩ = false /\ w.frozen? ⟨g, 3, none⟩ = false :=
 ⟨h.cell (j := 0) (by simp), h.cell (j := 1) (by simp), h.cell (j := 2) (by simp), h.cell (j := 3) (by simp), h.free (j := 0) (by simp), h.free (j := 1) (by simp), h.free (j := 2) (by simp), h.free (j := 3) (by simp)⟩
theorem RowAt.set4 {w : World} {g : Nat} {a b c d : Value} (h : RowAt w g [a, b, c, d]) (x y z u : Value) : RowAt (set4 w g x y z u) g [x, y, z, u] := by
 have := (((h.set (j := 0) (by simp) x).set (j := 1) (by simp) y).set (j := 2) (by simp) z).set (j := 3) (by simp) u
 simpa using this
theorem RowAt.others {w : World} {g g' : Nat} {vs : List Value} (h : RowAt w g vs) (hne : g ≠ g') (x y z u : Value) : RowAt (Go.Proofs.YtmnigckpejcaeaaGreatDoor.set4 w g' x y z u) g vs := (((h.other hne x).other hne y).other hne z).other hne u
theorem RdAt.other {w : World} {b i g o : Nat} {l : List UInt8} (h : RdAt w b l i) (hne : b ≠ g) (v : Value) : RdAt (w.setCell ⟨g, o, none⟩ v) b l i :=
 ⟨by rw [World.cell?_setCell_other _ _ _ _ (fun e => hne (congrArg Addr.block e).symm)]; exact h.s, by rw [World.cell?_setCell_other _ _ _ _ (fun e => hne (congrArg Addr.block e).symm)]; exact h.a, by rw [World.frozen?_setCell]; exact h.f⟩
theorem RdAt.set4 {w : World} {b i g : Nat} {l : List UInt8} (h : RdAt w b l i) (hne : b ≠ g) (x y z u : Value) : RdAt (Go.Proofs.YtmnigckpejcaeaaGreatDoor.set4 w g x y z u) b l i := (((h.other hne x).other hne y).other hne z).other hne u
theorem below_set4G {w W : World} {R : Nat} (hb : Below w.heap.size w W) (hR : w.heap.size <= R) (r : Option Nat) (a b c d : Value) : w.grownBy (set4 W R a b c d) r := below_grown (below_set4R hb hR a b c d) r
theorem grown_set {w W : World} {r : Option Nat} {R o : Nat} (h : w.grownBy W r) (hR : w.heap.size <= R) (v : Value) : w.grownBy (W.setCell ⟨R, o, none⟩ v) r := by
 refine ⟨h.os, h.tape, h.output, by simpa using h.size, fun k hk hn => ?_⟩
 rw [RowKit.Below.heap_setCell _ _ _ _ (by simp only; omega)]
 exact h.block k hk hn
theorem RdTo.set4R {w W : World} {b i : Nat} {l : List UInt8} (h : RdTo w W b l i) (hne : b ≠ w.heap.size) {x y z u : Value} : RdTo w (set4 W w.heap.size x y z u) b l i :=
 ⟨h.r.set4 hne x y z u, grown_set (grown_set (grown_set (grown_set h.g (Nat.le_refl _) _) (Nat.le_refl _) _) (Nat.le_refl _) _) (Nat.le_refl _) _⟩
theorem grown_old {w : World} {b : Nat} {l : List UInt8} {i : Nat} (h : RdAt w b l i) : b ≠ w.heap.size := Nat.ne_of_lt h.lt
set_option maxHeartbeats 3200000 in
theorem rdTerm_l (l : List UInt8) (b i : Nat) (s : ByteArray) (w : World) (hr : RdAt w b l i) (hT : TabAt w) (hM : MaxAt w) (_hi : i <= l.length) (hl : l.length <= 16777216) :
   Calls Tryz.prog 153 #[.pointer (some ⟨b, 0, none⟩), .string s] w fun e w' => SlotPost w w' b l e (slotF l i s.data.toList) := by
 have HA : Hid (Below w.heap.size w (w.alloc (.cells #[.int .i64 0, .string ⟨#[]⟩, .string ⟨#[]⟩, .string ⟨#[]⟩] 54))) := Lib.hid ((Below.refl _ _).alloc (Nat.le_refl _) _)
 have SE := Lib.hid (fun u (h : RdAt u b l i) => rdSees_l l b i s u h (by omega))
 have WR := Lib.hid (fun n u (h : RdAt u b l i) => rdWrong_l l b i n u h)
 have R1 := Lib.hid (fun w' => resT_new (w := w) (w' := w') (T := 54))
 have HF : Hid (slotF l i s.data.toList = if i < l.length /\ l.getD i 0 ∈ s.data.toList then (match termAt l i with
   | .inr f => .inr f
   | .inl (t, n) => .inl (t, blkF l n)) else .inr (i, 90)) := Lib.hid rfl
 have hbl := hr.lt
 have HR0 := Lib.hid (rdTo_new hr HA.out)
 have hwb := grown_old hr
 have HTM := Lib.hid (fun u (h : Below w.heap.size w u) => And.intro (hT.below h) (hM.below h))
 have hsb : seesB l i s.data.toList = true ↔ i < l.length /\ l.getD i 0 ∈ s.data.toList := by
   unfold seesB
   rw [Bool.and_eq_true, decide_eq_true_eq, List.contains_iff_mem]
 clear hr hT hM
 cases hs : seesB l i s.data.toList with
 | false =>
   have HE : Hid (slotF l i s.data.toList = .inr (i, 90)) := Lib.hid (by rw [HF.out, if_neg (fun h => by rw [hsb.2 h] at hs; cases hs)])
   rw [HE.out]
   rw [hs] at SE
   clear hs hsb HF
   go_enter Tryz.func153, Tryz.ntmps153
   go_wp2_with (first
     | (go_at_call 118; (refine (SE.out _ HR0.out.r).mono ?_); rintro e w2 ⟨rfl, hb⟩; have HT2 := Lib.hid (HR0.out.below hb); have HR2 := Lib.hid (R1.out _ hb); clear hb)
     | (go_at_call 154; (refine (WR.out _ _ HT2.out.r).mono ?_); rintro e w3 ⟨rfl, rfl⟩; obtain ⟨bb, c0, c1, c2, c3, f0, f1, f2, f3⟩ := HR2.out; have hlt2 := HR2.out.lt))
   refine bodyPost_ret (v := .tuple #[.agg #[.int .i64 0, .string ⟨#[]⟩, .string ⟨#[]⟩, .string ⟨#[]⟩], .iface 77 (.pointer (some ⟨w2.heap.size, 0, none⟩))]) (by simp [results, Tryz.results153, go_sem, c0, c1, c2, c3, hlt2]) rfl ?_
   refine ⟨_, rfl, err_newP rfl (by simp []), ?_⟩
   exact below_grown ((below_set4 HR2.out.b (.int .i64 0) (.string ⟨#[]⟩) (.string ⟨#[]⟩) (.string ⟨#[]⟩)).alloc (by simp [set4]; omega) _) _
 | true =>
   have hin := hsb.1 hs
   have HF2 : Hid (slotF l i s.data.toList = (match termAt l i with
     | .inr f => .inr f
     | .inl (t, n) => .inl (t, blkF l n))) := Lib.hid (by rw [HF.out, if_pos hin])
   rw [hs] at SE
   have hlt := hin.1
   have NX := Lib.hid (fun u (h : TabAt u /\ MaxAt u) => termNext_l l i u h.1 h.2 hl hlt)
   clear hs hsb HF hin
   cases hq : termAt l i with
   | inr f =>
     obtain ⟨p, c⟩ := f
     have HE : Hid (slotF l i s.data.toList = .inr (p, c)) := Lib.hid (by rw [HF2.out, hq])
     rw [HE.out]
     have N2 := Lib.hid (fun u h => read_bad hq (NX.out u h))
     clear hq NX HF2
     go_enter Tryz.func153, Tryz.ntmps153
     go_wp2_with (go_at_call 118; (refine (SE.out _ HR0.out.r).mono ?_); rintro e w2 ⟨rfl, hb⟩; have HT2 := Lib.hid (HR0.out.below hb); have HR2 := Lib.hid (R1.out _ hb); clear hb; obtain ⟨r0, r1, rf⟩ := HT2.out.r)
     have KP := Lib.hid (fun u (h : RdAt u b l i) => And.intro h.s h.a)
     have HZ := Lib.hid ((HT2.out.r.below ((Below.refl _ _).alloc (Nat.le_refl _) (.cells #[.int .i64 0, .string ⟨#[]⟩, .string ⟨#[]⟩, .string ⟨#[]⟩] 54))).drewN 1)
     have HZB := Lib.hid (HR2.out.b.alloc HR2.out.b.size (.cells #[.int .i64 0, .string ⟨#[]⟩, .string ⟨#[]⟩, .string ⟨#[]⟩] 54)).drew
     have hb2 := HT2.out.r.lt
     have hbn : b ≠ w2.heap.size := Nat.ne_of_lt hb2
     have hbn' : w2.heap.size ≠ b := Ne.symm hbn
     have HY := Lib.hid (HT2.out.r.drewN 1)
     have HYB := Lib.hid HR2.out.b.drew
     have HYR := Lib.hid (HR2.out.drewN 1)
     have HZR := Lib.hid ((HR2.out.alloc (.cells #[.int .i64 0, .string ⟨#[]⟩, .string ⟨#[]⟩, .string ⟨#[]⟩] 54)).drewN 1)
     have hwl := HR2.out.lt
     have hne1 : w2.heap.size ≠ w.heap.size := Nat.ne_of_gt hwl
     have hne2 : w.heap.size ≠ w2.heap.size := Nat.ne_of_lt hwl
     have NZ := Lib.hid (N2.out _ (HTM.out _ HZB.out))
     have NY := Lib.hid (N2.out _ (HTM.out _ HYB.out))
     go_region_held3 (fun w' => w'.cell? ⟨b, 0, none⟩ = some (.string (B l)) /\ w'.cell? ⟨b, 1, none⟩ = some (.int .i64 (i : Int))) (first | (with_reducible exact KP.out _ HB7.out) | (with_reducible exact KP.out _ (HB7.out.below ((Below.refl _ _).alloc (Nat.le_refl _) _))) | (refine ⟨?_, ?_⟩ <;> simp [go_sem, HB7.out.s, HB7.out.a]) | exact KP.out _ HZ.out | exact ⟨r0, r1⟩)
       (first
         | ((go_at_call 200; (with_reducible refine NY.out.mono ?_); rintro e w5 ⟨⟨k6, s5, s6, s7, n6, eb, rfl, he⟩, hb⟩; have HER := Lib.hid he; have HB7 := Lib.hid (HY.out.below hb); have HRW := Lib.hid (HYR.out.later hb); have HBX := Lib.hid (HYB.out.trans (hb.mono HYB.out.size)); have hbl9 := HB7.out.lt; clear he hb))
         | ((go_at_call 200; (with_reducible refine NZ.out.mono ?_); rintro e w5 ⟨⟨k6, s5, s6, s7, n6, eb, rfl, he⟩, hb⟩; have HER := Lib.hid he; have HB7 := Lib.hid (HZ.out.below hb); have HRW := Lib.hid (HZR.out.later hb); have HXY := Lib.hid (resT_new (w := w2) (w' := w5) (T := 54) ⟨hb.os, hb.tape, hb.output, hb.size, hb.block⟩); obtain ⟨xb, x0, x1, x2, x3, y0, y1, y2, y3⟩ := HXY.out; clear xb; have HBX := Lib.hid (HZB.out.trans (hb.mono HZB.out.size)); have hbl9 := HB7.out.lt; clear he hb)))
     all_goals
       clear HZ HY HYR HZR
       obtain ⟨bb, c0, c1, c2, c3, f0, f1, f2, f3⟩ := HRW.out
       have hlt5 := HRW.out.lt
       go_wp2_with fail
     · refine bodyPost_ret (v := .tuple #[.agg #[.int .i64 0, .string ⟨#[]⟩, .string ⟨#[]⟩, .string ⟨#[]⟩], .iface 77 (.pointer (some ⟨eb, 0, none⟩))]) (by simp [results, Tryz.results153, go_sem, c0, c1, c2, c3, hlt5]) rfl ?_
       exact ⟨eb, rfl, (err_set4G c1 HER.out _ _ _ _).below ((Below.refl _ _).alloc (Nat.le_refl _) _), below_grown ((below_set4 HBX.out (.int .i64 0) (.string ⟨#[]⟩) (.string ⟨#[]⟩) (.string ⟨#[]⟩)).alloc (by simp [set4]; omega) _) _⟩
     · refine bodyPost_ret (v := .tuple #[.agg #[.int .i64 0, .string ⟨#[]⟩, .string ⟨#[]⟩, .string ⟨#[]⟩], .iface 77 (.pointer (some ⟨eb, 0, none⟩))]) (by simp [results, Tryz.results153, go_sem, c0, c1, c2, c3]) rfl ?_
       have hb5 := below_set4R HBX.out (Nat.le_of_lt hwl) (.int .i64 k6) (.string (B s5)) (.string (B s6)) (.string (B s7))
       exact ⟨eb, rfl, err_set4G ((cell_set4 _ hne2 1 _ _ _ _).trans c1) (err_set4G x1 HER.out _ _ _ _) _ _ _ _, below_grown (below_set4 hb5 _ _ _ _) _⟩
   | inl f =>
     obtain ⟨t, n⟩ := f
     have HE : Hid (slotF l i s.data.toList = .inl (t, blkF l n)) := Lib.hid (by rw [HF2.out, hq])
     have hn := (termAt_end hq).2
     have BL := Lib.hid (fun u (h : RdAt u b l n) => rdBlanks_l l b n u h hn (by omega))
     rw [HE.out]
     have N2 := Lib.hid (fun u h => read_ok hq (NX.out u h))
     clear hq NX HF2
     go_enter Tryz.func153, Tryz.ntmps153
     go_wp2_with (go_at_call 118; (refine (SE.out _ HR0.out.r).mono ?_); rintro e w2 ⟨rfl, hb⟩; have HT2 := Lib.hid (HR0.out.below hb); have HR2 := Lib.hid (R1.out _ hb); clear hb; obtain ⟨r0, r1, rf⟩ := HT2.out.r)
     have KP := Lib.hid (fun u (h : RdAt u b l i) => And.intro h.s h.a)
     have HZ := Lib.hid ((HT2.out.r.below ((Below.refl _ _).alloc (Nat.le_refl _) (.cells #[.int .i64 0, .string ⟨#[]⟩, .string ⟨#[]⟩, .string ⟨#[]⟩] 54))).drewN 1)
     have HZB := Lib.hid (HR2.out.b.alloc HR2.out.b.size (.cells #[.int .i64 0, .string ⟨#[]⟩, .string ⟨#[]⟩, .string ⟨#[]⟩] 54)).drew
     have hb2 := HT2.out.r.lt
     have hbn : b ≠ w2.heap.size := Nat.ne_of_lt hb2
     have hbn' : w2.heap.size ≠ b := Ne.symm hbn
     have HY := Lib.hid (HT2.out.r.drewN 1)
     have HYB := Lib.hid HR2.out.b.drew
     have HYR := Lib.hid (HR2.out.drewN 1)
     have HZR := Lib.hid ((HR2.out.alloc (.cells #[.int .i64 0, .string ⟨#[]⟩, .string ⟨#[]⟩, .string ⟨#[]⟩] 54)).drewN 1)
     have hwl := HR2.out.lt
     have hne1 : w2.heap.size ≠ w.heap.size := Nat.ne_of_gt hwl
     have hne2 : w.heap.size ≠ w2.heap.size := Nat.ne_of_lt hwl
     have NZ := Lib.hid (N2.out _ (HTM.out _ HZB.out))
     have NY := Lib.hid (N2.out _ (HTM.out _ HYB.out))
     go_region_held3 (fun w' => w'.cell? ⟨b, 0, none⟩ = some (.string (B l)) /\ w'.cell? ⟨b, 1, none⟩ = some (.int .i64 (i : Int))) (first | (with_reducible exact KP.out _ HB7.out) | (with_reducible exact KP.out _ (HB7.out.below ((Below.refl _ _).alloc (Nat.le_refl _) _))) | (refine ⟨?_, ?_⟩ <;> simp [go_sem, HB7.out.s, HB7.out.a]) | exact KP.out _ HZ.out | exact ⟨r0, r1⟩)
       (first
         | ((go_at_call 200; (with_reducible refine NY.out.mono ?_); rintro e w5 ⟨rfl, hb⟩; have HB7 := Lib.hid (HY.out.below hb); have HRW := Lib.hid (HYR.out.later hb); have HBX := Lib.hid (HYB.out.trans (hb.mono HYB.out.size)); have hbl9 := HB7.out.lt; clear hb))
         | ((go_at_call 200; (with_reducible refine NZ.out.mono ?_); rintro e w5 ⟨rfl, hb⟩; have HB7 := Lib.hid (HZ.out.below hb); have HRW := Lib.hid (HZR.out.later hb); have HXY := Lib.hid (resT_new (w := w2) (w' := w5) (T := 54) ⟨hb.os, hb.tape, hb.output, hb.size, hb.block⟩); obtain ⟨xb, x0, x1, x2, x3, y0, y1, y2, y3⟩ := HXY.out; clear xb; have HBX := Lib.hid (HZB.out.trans (hb.mono HZB.out.size)); have hbl9 := HB7.out.lt; clear hb)))
     all_goals
       clear HZ HY HYR HZR
       obtain ⟨bb, c0, c1, c2, c3, f0, f1, f2, f3⟩ := HRW.out
       have hlt5 := HRW.out.lt
       have rs5 := HB7.out.s
       have ra5 := HB7.out.a
       have rf5 := HB7.out.f
       go_wp2_with fail
     · have h7 := (RdTo.mk (HB7.out.set n) (grownR_trans (below_grown HBX.out _) (grownBy_setCell1 w5 b 1 (.int .i64 (n : Int))))).below ((Below.refl _ _).alloc (Nat.le_refl _) (.cells #[.int .i64 t.kind, .string (B t.text), .string (B t.type), .string (B t.lang)] 54))
       have hgr := rowAt_of_heap (w := (w5.setCell ⟨b, 1, none⟩ (.int .i64 (n : Int))).alloc (.cells #[.int .i64 t.kind, .string (B t.text), .string (B t.type), .string (B t.lang)] 54)) (L := [.int .i64 t.kind, .string (B t.text), .string (B t.type), .string (B t.lang)]) (heap_alloc_new _ _)
       have hrr := (HRW.out.row.other (g' := b) (o := 1) hwb.symm (.int .i64 (n : Int))).below ((Below.refl _ _).alloc (Nat.le_refl _) (.cells #[.int .i64 t.kind, .string (B t.text), .string (B t.type), .string (B t.lang)] 54)) (by simp; omega)
       have hgb : w5.heap.size ≠ b := by omega
       have hrb := hwb.symm
       simp only [World.size_setCell] at hgr
       have HD := Lib.hid h7
       have HGR := Lib.hid hgr
       have HRR := Lib.hid hrr
       clear h7 hgr hrr
       refine (BL.out _ HD.out.r).mono ?_
       rintro e w8 ⟨rfl, hr8, hg8⟩
       have HD8 := Lib.hid (HD.out.trans ⟨hr8, hg8⟩)
       obtain ⟨x0, x1, x2, x3, _, _, _, _⟩ := (HGR.out.grows (by simp) hg8 (hgb)).four
       obtain ⟨y0, y1, y2, y3, z0, z1, z2, z3⟩ := (HRR.out.grows (by simp) hg8 (hrb)).four
       clear hr8 hg8
       go_wp2_with fail
       refine bodyPost_ret (v := .tuple #[.agg #[.int .i64 t.kind, .string (B t.text), .string (B t.type), .string (B t.lang)], .nilIface]) (by simp [results, Tryz.results153, go_sem, y0, y1, y2, y3]) rfl ?_
       exact ⟨rfl, HD8.out.set4R hwb⟩
     · have h7 := RdTo.mk ((HB7.out.set4 hbn (.int .i64 t.kind) (.string (B t.text)) (.string (B t.type)) (.string (B t.lang))).set n) (grownR_trans (below_set4G HBX.out (Nat.le_of_lt hwl) (some b) (.int .i64 t.kind) (.string (B t.text)) (.string (B t.type)) (.string (B t.lang))) (grownBy_setCell1 _ b 1 (.int .i64 (n : Int))))
       have hgr := (HXY.out.row.set4 (.int .i64 t.kind) (.string (B t.text)) (.string (B t.type)) (.string (B t.lang))).other (g' := b) (o := 1) hbn' (.int .i64 (n : Int))
       have hrr := ((HRW.out.row.others hne2 (.int .i64 t.kind) (.string (B t.text)) (.string (B t.type)) (.string (B t.lang)))).other (g' := b) (o := 1) hwb.symm (.int .i64 (n : Int))
       have hgb := hbn'
       have hrb := hwb.symm
       have HD := Lib.hid h7
       have HGR := Lib.hid hgr
       have HRR := Lib.hid hrr
       clear h7 hgr hrr
       refine (BL.out _ HD.out.r).mono ?_
       rintro e w8 ⟨rfl, hr8, hg8⟩
       have HD8 := Lib.hid (HD.out.trans ⟨hr8, hg8⟩)
       obtain ⟨x0, x1, x2, x3, _, _, _, _⟩ := (HGR.out.grows (by simp) hg8 (hgb)).four
       obtain ⟨y0, y1, y2, y3, z0, z1, z2, z3⟩ := (HRR.out.grows (by simp) hg8 (hrb)).four
       clear hr8 hg8
       go_wp2_with fail
       refine bodyPost_ret (v := .tuple #[.agg #[.int .i64 t.kind, .string (B t.text), .string (B t.type), .string (B t.lang)], .nilIface]) (by simp [results, Tryz.results153, go_sem, y0, y1, y2, y3]) rfl ?_
       exact ⟨rfl, HD8.out.set4R hwb⟩
end Go.Proofs.YtmnigckpejcaeaaGreatDoor
namespace Go.Proofs.YtmnigckpejcaeaaGreatDoor
set_option maxRecDepth 100000
def noQuad : QuadL := ⟨noTerm, noTerm, noTerm, noTerm⟩
def stmt4 (l : List UInt8) (q : QuadL) (j : Nat) : (QuadL × Nat) ⊕ (Nat × Int) := if l.getD j 0 = 46 then .inl (q, j + 1) else .inr (j, 90)
def stmt3 (l : List UInt8) (q : QuadL) (j : Nat) : (QuadL × Nat) ⊕ (Nat × Int) :=
 if l.getD j 0 = 46 then .inl (⟨q.s, q.p, q.o, noTerm⟩, j + 1) else match slotF l j [60, 95] with
   | .inr f => .inr f
   | .inl (g, n) => stmt4 l ⟨q.s, q.p, q.o, g⟩ n
def stmt2 (l : List UInt8) (q : QuadL) (j : Nat) : (QuadL × Nat) ⊕ (Nat × Int) := match slotF l j [60, 95, 34] with
 | .inr f => .inr f
 | .inl (o, n) => stmt3 l ⟨q.s, q.p, o, noTerm⟩ n
def stmt1 (l : List UInt8) (q : QuadL) (j : Nat) : (QuadL × Nat) ⊕ (Nat × Int) := match slotF l j [60] with
 | .inr f => .inr f
 | .inl (p, n) => stmt2 l ⟨q.s, p, noTerm, noTerm⟩ n
def stmt0 (l : List UInt8) (j : Nat) : (QuadL × Nat) ⊕ (Nat × Int) := match slotF l j [60, 95] with
 | .inr f => .inr f
 | .inl (s, n) => stmt1 l ⟨s, noTerm, noTerm, noTerm⟩ n
theorem stmtF_0 (l : List UInt8) (j : Nat) : stmtF l j = stmt0 l j := by
 unfold stmtF stmt0
 cases slotF l j [60, 95] with
 | inr f => rfl
 | inl x =>
   obtain ⟨s, i1⟩ := x
   simp only
   unfold stmt1
   cases slotF l i1 [60] with
   | inr f => rfl
   | inl x =>
     obtain ⟨p, i2⟩ := x
     simp only
     unfold stmt2
     cases slotF l i2 [60, 95, 34] with
     | inr f => rfl
     | inl x =>
       obtain ⟨o, i3⟩ := x
       simp only
       unfold stmt3 stmt4
       rfl
def QuadSt (l : List UInt8) (i : Nat) : Nat -> QuadL -> Nat -> Prop
 | 0, q, j => stmtF l i = stmt0 l j /\ q = noQuad
 | 1, q, j => stmtF l i = stmt1 l q j /\ q = ⟨q.s, noTerm, noTerm, noTerm⟩
 | 2, q, j => stmtF l i = stmt2 l q j /\ q = ⟨q.s, q.p, noTerm, noTerm⟩
 | 3, q, j => stmtF l i = stmt3 l q j /\ q = ⟨q.s, q.p, q.o, noTerm⟩
 | _, q, j => stmtF l i = stmt4 l q j
theorem quadSt_start (l : List UInt8) (i : Nat) : QuadSt l i 0 noQuad i := ⟨stmtF_0 l i, rfl⟩
theorem quadSt_bad0 {l : List UInt8} {i j p : Nat} {c : Int} {q : QuadL} (h : QuadSt l i 0 q j) (hs : slotF l j [60, 95] = .inr (p, c)) : stmtF l i = .inr (p, c) := by
 rw [h.1]; unfold stmt0; rw [hs]
theorem quadSt_bad1 {l : List UInt8} {i j p : Nat} {c : Int} {q : QuadL} (h : QuadSt l i 1 q j) (hs : slotF l j [60] = .inr (p, c)) : stmtF l i = .inr (p, c) := by
 rw [h.1]; unfold stmt1; rw [hs]
theorem quadSt_bad2 {l : List UInt8} {i j p : Nat} {c : Int} {q : QuadL} (h : QuadSt l i 2 q j) (hs : slotF l j [60, 95, 34] = .inr (p, c)) : stmtF l i = .inr (p, c) := by
 rw [h.1]; unfold stmt2; rw [hs]
theorem quadSt_bad3 {l : List UInt8} {i j p : Nat} {c : Int} {q : QuadL} (h : QuadSt l i 3 q j) (hd : l.getD j 0 ≠ 46) (hs : slotF l j [60, 95] = .inr (p, c)) : stmtF l i = .inr (p, c) := by
 rw [h.1]; unfold stmt3; rw [if_neg hd, hs]
theorem quadSt_ok0 {l : List UInt8} {i j n : Nat} {t : TermL} {q : QuadL} (h : QuadSt l i 0 q j) (hs : slotF l j [60, 95] = .inl (t, n)) : QuadSt l i 1 ⟨t, q.p, q.o, q.g⟩ n := by
 have h2 := h.2
 refine ⟨?_, by rw [h2]; rfl⟩
 rw [h.1]; unfold stmt0; rw [hs, h2]; rfl
theorem quadSt_ok1 {l : List UInt8} {i j n : Nat} {t : TermL} {q : QuadL} (h : QuadSt l i 1 q j) (hs : slotF l j [60] = .inl (t, n)) : QuadSt l i 2 ⟨q.s, t, q.o, q.g⟩ n := by
 have h2 := h.2
 have ho : q.o = noTerm := by rw [h2]
 have hg : q.g = noTerm := by rw [h2]
 refine ⟨?_, by rw [ho, hg]⟩
 rw [h.1]; unfold stmt1; rw [hs, ho, hg]
theorem quadSt_ok2 {l : List UInt8} {i j n : Nat} {t : TermL} {q : QuadL} (h : QuadSt l i 2 q j) (hs : slotF l j [60, 95, 34] = .inl (t, n)) : QuadSt l i 3 ⟨q.s, q.p, t, q.g⟩ n := by
 have h2 := h.2
 have hg : q.g = noTerm := by rw [h2]
 refine ⟨?_, by rw [hg]⟩
 rw [h.1]; unfold stmt2; rw [hs, hg]
theorem quadSt_ok3 {l : List UInt8} {i j n : Nat} {t : TermL} {q : QuadL} (h : QuadSt l i 3 q j) (hd : l.getD j 0 ≠ 46) (hs : slotF l j [60, 95] = .inl (t, n)) : QuadSt l i 4 ⟨q.s, q.p, q.o, t⟩ n := by
 show stmtF l i = _
 rw [h.1]; unfold stmt3; rw [if_neg hd, hs]
theorem quadSt_dot3 {l : List UInt8} {i j : Nat} {q : QuadL} (h : QuadSt l i 3 q j) (hd : l.getD j 0 = 46) : stmtF l i = .inl (q, j + 1) := by
 rw [h.1]; unfold stmt3; rw [if_pos hd]; rw [<- h.2]
theorem quadSt_dot4 {l : List UInt8} {i j : Nat} {q : QuadL} (h : QuadSt l i 4 q j) (hd : l.getD j 0 = 46) : stmtF l i = .inl (q, j + 1) := by
 rw [show stmtF l i = stmt4 l q j from h]; unfold stmt4; rw [if_pos hd]
theorem quadSt_end4 {l : List UInt8} {i j : Nat} {q : QuadL} (h : QuadSt l i 4 q j) (hd : l.getD j 0 ≠ 46) : stmtF l i = .inr (j, 90) := by
 rw [show stmtF l i = stmt4 l q j from h]; unfold stmt4; rw [if_neg hd]
end Go.Proofs.YtmnigckpejcaeaaGreatDoor
namespace Go.Proofs.YtmnigckpejcaeaaGreatDoor
open Go.RowKit
set_option maxRecDepth 100000
def QuadPost (w w' : World) (b : Nat) (l : List UInt8) (e : Ending) : (QuadL × Nat) ⊕ (Nat × Int) -> Prop
 | .inl (q, n) => e = .returned (.tuple #[qv q, .nilIface]) /\ RdTo w w' b l n
 | .inr (p, c) => ∃ eb, e = .returned (.tuple #[qv noQuad, .iface 77 (.pointer (some ⟨eb, 0, none⟩))]) /\ ErrIs w' (.iface 77 (.pointer (some ⟨eb, 0, none⟩))) (.inr (p, c)) /\ w.grownBy w' (some b)
theorem rdTerm_bad {l : List UInt8} {b j p : Nat} {c : Int} {s : ByteArray} {u : World} (hs : slotF l j s.data.toList = .inr (p, c)) (hr : RdAt u b l j) (hT : TabAt u) (hM : MaxAt u) (hi : j <= l.length) (hl : l.length <= 16777216) :
   Calls Tryz.prog 153 #[.pointer (some ⟨b, 0, none⟩), .string s] u fun e w' => ∃ eb, e = .returned (.tuple #[.agg #[.int .i64 0, .string ⟨#[]⟩, .string ⟨#[]⟩, .string ⟨#[]⟩], .iface 77 (.pointer (some ⟨eb, 0, none⟩))]) /\ ErrIs w' (.iface 77 (.pointer (some ⟨eb, 0, none⟩))) (.inr (p, c)) /\ u.grownBy w' (some b) :=
 (rdTerm_l l b j s u hr hT hM hi hl).mono fun e w' h => by rw [hs] at h; exact h
theorem rdTerm_ok {l : List UInt8} {b j n : Nat} {t : TermL} {s : ByteArray} {u : World} (hs : slotF l j s.data.toList = .inl (t, n)) (hr : RdAt u b l j) (hT : TabAt u) (hM : MaxAt u) (hi : j <= l.length) (hl : l.length <= 16777216) :
   Calls Tryz.prog 153 #[.pointer (some ⟨b, 0, none⟩), .string s] u fun e w' => e = .returned (.tuple #[.agg #[.int .i64 t.kind, .string (B t.text), .string (B t.type), .string (B t.lang)], .nilIface]) /\ RdTo u w' b l n :=
 (rdTerm_l l b j s u hr hT hM hi hl).mono fun e w' h => by rw [hs] at h; exact h
structure QuadMem (w wr : World) (b : Nat) (l : List UInt8) (q : QuadL) (j : Nat) : Prop where
 r : RdTo w wr b l j
 q : RowAt wr (w.heap.size + 1) (quadC q)
 z : wr.heap[w.heap.size]? = some (.cells (quadC noQuad).toArray 56 (0, 0))
theorem QuadMem.step {w wr u : World} {b i j : Nat} {l : List UInt8} {q : QuadL} (h : QuadMem w wr b l q i) (hb : b < w.heap.size) (h2 : RdTo wr u b l j) : QuadMem w u b l q j := by
 refine ⟨h.r.trans h2, h.q.grows (by simp [quadC, termC]) h2.g (by omega), ?_⟩
 rw [h2.g.block w.heap.size (Array.getElem?_eq_some_iff.1 h.z).1 (by simp; omega)]
 exact h.z
theorem QuadMem.below {w wr u : World} {b i : Nat} {l : List UInt8} {q : QuadL} (h : QuadMem w wr b l q i) (hb : b < w.heap.size) (h2 : Below wr.heap.size wr u) : QuadMem w u b l q i := h.step hb (rdTo_new h.r.r h2)
theorem QuadMem.lt {w wr : World} {b i : Nat} {l : List UInt8} {q : QuadL} (h : QuadMem w wr b l q i) : w.heap.size + 1 < wr.heap.size := World.block_lt_of_cell? _ _ (h.q.cell (j := 0) (by simp [quadC, termC]))
theorem QuadMem.put0 {w wr : World} {b i : Nat} {l : List UInt8} {q : QuadL} (h : QuadMem w wr b l q i) (hb : b < w.heap.size) (t : TermL) : QuadMem w ((((wr.setCell ⟨w.heap.size + 1, 0, none⟩ (.int .i64 t.kind)).setCell ⟨w.heap.size + 1, 1, none⟩ (.string (B t.text))).setCell ⟨w.heap.size + 1, 2, none⟩ (.string (B t.type))).setCell ⟨w.heap.size + 1, 3, none⟩ (.string (B t.lang))) b l ⟨t, q.p, q.o, q.g⟩ i := by
 have hne : b ≠ w.heap.size + 1 := by omega
 refine ⟨⟨(((h.r.r.other hne _).other hne _).other hne _).other hne _, grown_set (grown_set (grown_set (grown_set h.r.g (by omega) _) (by omega) _) (by omega) _) (by omega) _⟩, ?_, ?_⟩
 · have := (((h.q.set (j := 0) (by simp [quadC, termC]) (.int .i64 t.kind)).set (j := 1) (by simp [quadC, termC]) (.string (B t.text))).set (j := 2) (by simp [quadC, termC]) (.string (B t.type))).set (j := 3) (by simp [quadC, termC]) (.string (B t.lang))
   exact this
 · rw [RowKit.Below.heap_setCell _ _ _ _ (by simp), RowKit.Below.heap_setCell _ _ _ _ (by simp), RowKit.Below.heap_setCell _ _ _ _ (by simp), RowKit.Below.heap_setCell _ _ _ _ (by simp)]
   exact h.z
theorem QuadMem.put1 {w wr : World} {b i : Nat} {l : List UInt8} {q : QuadL} (h : QuadMem w wr b l q i) (hb : b < w.heap.size) (t : TermL) : QuadMem w ((((wr.setCell ⟨w.heap.size + 1, 4, none⟩ (.int .i64 t.kind)).setCell ⟨w.heap.size + 1, 5, none⟩ (.string (B t.text))).setCell ⟨w.heap.size + 1, 6, none⟩ (.string (B t.type))).setCell ⟨w.heap.size + 1, 7, none⟩ (.string (B t.lang))) b l ⟨q.s, t, q.o, q.g⟩ i := by
 have hne : b ≠ w.heap.size + 1 := by omega
 refine ⟨⟨(((h.r.r.other hne _).other hne _).other hne _).other hne _, grown_set (grown_set (grown_set (grown_set h.r.g (by omega) _) (by omega) _) (by omega) _) (by omega) _⟩, ?_, ?_⟩
 · have := (((h.q.set (j := 4) (by simp [quadC, termC]) (.int .i64 t.kind)).set (j := 5) (by simp [quadC, termC]) (.string (B t.text))).set (j := 6) (by simp [quadC, termC]) (.string (B t.type))).set (j := 7) (by simp [quadC, termC]) (.string (B t.lang))
   exact this
 · rw [RowKit.Below.heap_setCell _ _ _ _ (by simp), RowKit.Below.heap_setCell _ _ _ _ (by simp), RowKit.Below.heap_setCell _ _ _ _ (by simp), RowKit.Below.heap_setCell _ _ _ _ (by simp)]
   exact h.z
theorem QuadMem.put2 {w wr : World} {b i : Nat} {l : List UInt8} {q : QuadL} (h : QuadMem w wr b l q i) (hb : b < w.heap.size) (t : TermL) : QuadMem w ((((wr.setCell ⟨w.heap.size + 1, 8, none⟩ (.int .i64 t.kind)).setCell ⟨w.heap.size + 1, 9, none⟩ (.string (B t.text))).setCell ⟨w.heap.size + 1, 10, none⟩ (.string (B t.type))).setCell ⟨w.heap.size + 1, 11, none⟩ (.string (B t.lang))) b l ⟨q.s, q.p, t, q.g⟩ i := by
 have hne : b ≠ w.heap.size + 1 := by omega
 refine ⟨⟨(((h.r.r.other hne _).other hne _).other hne _).other hne _, grown_set (grown_set (grown_set (grown_set h.r.g (by omega) _) (by omega) _) (by omega) _) (by omega) _⟩, ?_, ?_⟩
 · have := (((h.q.set (j := 8) (by simp [quadC, termC]) (.int .i64 t.kind)).set (j := 9) (by simp [quadC, termC]) (.string (B t.text))).set (j := 10) (by simp [quadC, termC]) (.string (B t.type))).set (j := 11) (by simp [quadC, termC]) (.string (B t.lang))
   exact this
 · rw [RowKit.Below.heap_setCell _ _ _ _ (by simp), RowKit.Below.heap_setCell _ _ _ _ (by simp), RowKit.Below.heap_setCell _ _ _ _ (by simp), RowKit.Below.heap_setCell _ _ _ _ (by simp)]
   exact h.z
theorem QuadMem.put3 {w wr : World} {b i : Nat} {l : List UInt8} {q : QuadL} (h : QuadMem w wr b l q i) (hb : b < w.heap.size) (t : TermL) : QuadMem w ((((wr.setCell ⟨w.heap.size + 1, 12, none⟩ (.int .i64 t.kind)).setCell ⟨w.heap.size + 1, 13, none⟩ (.string (B t.text))).setCell ⟨w.heap.size + 1, 14, none⟩ (.string (B t.type))).setCell ⟨w.heap.size + 1, 15, none⟩ (.string (B t.lang))) b l ⟨q.s, q.p, q.o, t⟩ i := by
 have hne : b ≠ w.heap.size + 1 := by omega
 refine ⟨⟨(((h.r.r.other hne _).other hne _).other hne _).other hne _, grown_set (grown_set (grown_set (grown_set h.r.g (by omega) _) (by omega) _) (by omega) _) (by omega) _⟩, ?_, ?_⟩
 · have := (((h.q.set (j := 12) (by simp [quadC, termC]) (.int .i64 t.kind)).set (j := 13) (by simp [quadC, termC]) (.string (B t.text))).set (j := 14) (by simp [quadC, termC]) (.string (B t.type))).set (j := 15) (by simp [quadC, termC]) (.string (B t.lang))
   exact this
 · rw [RowKit.Below.heap_setCell _ _ _ _ (by simp), RowKit.Below.heap_setCell _ _ _ _ (by simp), RowKit.Below.heap_setCell _ _ _ _ (by simp), RowKit.Below.heap_setCell _ _ _ _ (by simp)]
   exact h.z
theorem grown_rowQ {w W : World} {r : Option Nat} {R : Nat} (h : w.grownBy W r) (hR : w.heap.size <= R) (cs : Array Value) : w.grownBy (W.setRow R cs) r :=
 ⟨h.os, h.tape, h.output, by simpa using h.size, fun k hk hn => by rw [setRow_other _ _ _ _ (by omega)]; exact h.block k hk hn⟩
theorem slotF_le {l : List UInt8} {j n : Nat} {s : List UInt8} {t : TermL} (_hj : j <= l.length) (h : slotF l j s = .inl (t, n)) : n <= l.length := (slotF_end h).2
theorem RdTo.rowed {w W : World} {b i : Nat} {l : List UInt8} (h : RdTo w W b l i) (cs : Array Value) (hb : b < w.heap.size := by assumption) : RdTo w (W.setRow w.heap.size cs) b l i := by
 have e : (W.setRow w.heap.size cs).heap[b]? = W.heap[b]? := setRow_other _ _ _ _ (by omega)
 refine ⟨⟨by rw [World.cell?_of_block e]; exact h.r.s, by rw [World.cell?_of_block e]; exact h.r.a, ?_⟩, grown_rowQ h.g (Nat.le_refl _) cs⟩
 have := h.r.f
 simp only [World.frozen?] at this ⊢
 rw [e]
 exact this
theorem err_row {w : World} {v : Value} {p g : Nat} {n : Int} {q : QuadL} {T : TypeId} {fr : Nat × Nat} (hz : w.heap[g]? = some (.cells (quadC q).toArray T fr)) (h : ErrIs w v (.inr (p, n))) (cs : Array Value) : ErrIs (w.setRow g cs) v (.inr (p, n)) := by
 obtain ⟨eb, rfl, h1, h2⟩ := h
 have hne : eb ≠ g := by
   rintro rfl
   have := cell_of_row w eb 1 _ T fr hz
   rw [h2] at this
   simp [quadC, termC] at this
 have e : (w.setRow g cs).heap[eb]? = w.heap[eb]? := setRow_other _ _ _ _ hne
 exact ⟨eb, rfl, by rw [World.cell?_of_block e]; exact h1, by rw [World.cell?_of_block e]; exact h2⟩
theorem range_of {w : World} {g : Nat} {cs : List Value} (h : RowAt w g cs) : w.rangeAt g 0 cs := fun j v hj => by
 obtain ⟨h1, h2⟩ := List.getElem?_eq_some_iff.1 hj
 rw [Nat.zero_add, h.cell h1, h2]
theorem QuadMem.set {w wr : World} {b i : Nat} {l : List UInt8} {q : QuadL} (h : QuadMem w wr b l q i) (hb : b < w.heap.size) (j : Nat) {J : Int} (hJ : (j : Int) = J) : QuadMem w (wr.setCell ⟨b, 1, none⟩ (.int .i64 J)) b l q j := by
 subst hJ
 refine ⟨⟨h.r.r.set j, grownR_trans h.r.g (grownBy_setCell1 wr b 1 _)⟩, h.q.other (by omega) _, ?_⟩
 rw [RowKit.Below.heap_setCell _ _ _ _ (by simp; omega)]
 exact h.z
theorem row16 {w : World} {g : Nat} {old : Array Value} {T : TypeId} (q : QuadL) (hz : w.heap[g]? = some (.cells old T (0, 0))) : (w.setRow g (quadC q).toArray).rangeAt g 0 (quadC q) := range_row (T := T) (fr := (0, 0)) (setRow_heap w g old (quadC q).toArray T (0, 0) hz)
set_option maxHeartbeats 12000000 in
theorem rdQuad_l (l : List UInt8) (b i : Nat) (w : World) (hr : RdAt w b l i) (hTM : ∀ u, w.grownBy u (some b) -> TabAt u /\ MaxAt u) (hi : i <= l.length) (hl : l.length <= 16777216) :
   Calls Tryz.prog 119 #[.pointer (some ⟨b, 0, none⟩)] w fun e w' => QuadPost w w' b l e (stmtF l i) := by
 have HTM := Lib.hid hTM
 have hbw := hr.lt
 have hA : Below w.heap.size w ((w.alloc (.cells (quadC noQuad).toArray 56)).alloc (.cells (quadC noQuad).toArray 56)) := ((Below.refl _ _).alloc (Nat.le_refl _) _).alloc (by simp) _
 have HM0 : Hid (QuadMem w ((w.alloc (.cells (quadC noQuad).toArray 56)).alloc (.cells (quadC noQuad).toArray 56)) b l noQuad i) := Lib.hid ⟨rdTo_new hr hA, by
     have := rowAt_of_heap (w := (w.alloc (.cells (quadC noQuad).toArray 56)).alloc (.cells (quadC noQuad).toArray 56)) (L := quadC noQuad) (t := 56) (heap_alloc_new _ _)
     rwa [World.size_alloc] at this, by rw [heap_alloc_old _ _ (by simp)]; exact heap_alloc_new _ _⟩
 clear hTM hr hA
 go_enter Tryz.func119, Tryz.ntmps119
 go_wp2_with fail
 go_loopw [14] (fun s wr => ∃ (k j : Nat) (q : QuadL), s = .int .i64 k /\ k <= 4 /\ j <= l.length /\ Hid (QuadSt l i k q j) /\ Hid (QuadMem w wr b l q j)) (fun s _ => 4 - (intOf s).toNat)
 case atStart => exact ⟨0, i, noQuad, rfl, by omega, hi, Lib.hid (quadSt_start l i), HM0⟩
 case round =>
   obtain ⟨k, j, q, rfl, hk, hj, HS, HM⟩ := hrel
   have hk5 : k = 0 \/ k = 1 \/ k = 2 \/ k = 3 \/ k = 4 := by omega
   rcases hk5 with rfl | rfl | rfl | rfl | rfl
   · have ix := fun (u : World) => (show (Instr.index 221 (.agg #[.pointer (some ⟨w.heap.size + 1, 0, none⟩), .pointer (some ⟨w.heap.size + 1, 4, none⟩), .pointer (some ⟨w.heap.size + 1, 8, none⟩), .pointer (some ⟨w.heap.size + 1, 12, none⟩)]) (.int .i64 0)).run Tryz.prog u = .ok (.pointer (some ⟨w.heap.size + 1, 0, none⟩)) u by kernel_rfl)
     have is := fun (u : World) => (show (Instr.index 224 (.agg #[.string ⟨#[60, 95]⟩, .string ⟨#[60]⟩, .string ⟨#[60, 95, 34]⟩, .string ⟨#[60, 95]⟩]) (.int .i64 0)).run Tryz.prog u = .ok (.string ⟨#[60, 95]⟩) u by kernel_rfl)
     cases hq : slotF l j [60, 95] with
     | inr f =>
       as_aux_lemma =>
         obtain ⟨p, c⟩ := f
         have HE := Lib.hid (quadSt_bad0 HS.out hq)
         have TM := Lib.hid (rdTerm_bad (s := ⟨#[60, 95]⟩) hq HM.out.r.r (HTM.out _ HM.out.r.g).1 (HTM.out _ HM.out.r.g).2 hj hl)
         have HZ5 := Lib.hid (fun (u : World) (hg : wr.grownBy u (some b)) => (hg.block w.heap.size (Array.getElem?_eq_some_iff.1 HM.out.z).1 (by simp; omega)).trans HM.out.z)
         have HLT := Lib.hid (Array.getElem?_eq_some_iff.1 HM.out.z).1
         clear hq
         go_wp2_with (first
           | (go_at_call 153; (with_reducible refine TM.out.mono ?_); rintro e w5 ⟨eb, rfl, he, hg⟩; have HER := Lib.hid he; have HG5 := Lib.hid hg; clear he hg; have HZ := Lib.hid ((heap_alloc_old w5 (.cells #[.int .i64 0, .string ⟨#[]⟩, .string ⟨#[]⟩, .string ⟨#[]⟩] 54) (Nat.lt_of_lt_of_le HLT.out HG5.out.size)).trans (HZ5.out w5 HG5.out)))
           | (refine wpList_store_quad rfl (.tmp 2) (.tmp 34) rfl _ rfl noQuad rfl ?T1 ?o1 ?hs1 ?hg1 ?_; (case hg1 => exact HZ.out); (case hs1 => rfl)))
         obtain ⟨h0, h1, h2, h3, h4, h5, h6, h7, h8, h9, h10, h11, h12, h13, h14, h15⟩ := cells16 (row16 noQuad HZ.out)
         simp only [Nat.zero_add] at h1 h2 h3 h4 h5 h6 h7 h8 h9 h10 h11 h12 h13 h14 h15
         refine bodyPost_ret (v := .tuple #[qv noQuad, .iface 77 (.pointer (some ⟨eb, 0, none⟩))]) (by simp [results, Tryz.results119, go_sem, h0, h1, h2, h3, h4, h5, h6, h7, h8, h9, h10, h11, h12, h13, h14, h15]) rfl ?_
         rw [HE.out]
         exact ⟨eb, rfl, err_row HZ.out (HER.out.below ((Below.refl _ _).alloc (Nat.le_refl _) _)) _, grown_rowQ (grownR_trans (grownR_trans HM.out.r.g HG5.out) (below_grown ((Below.refl _ _).alloc (Nat.le_refl _) _) _)) (Nat.le_refl _) _⟩
     | inl f =>
       as_aux_lemma =>
         obtain ⟨t, n⟩ := f
         have HE := Lib.hid (quadSt_ok0 HS.out hq)
         have hn := slotF_le hj hq
         have TM := Lib.hid (rdTerm_ok (s := ⟨#[60, 95]⟩) hq HM.out.r.r (HTM.out _ HM.out.r.g).1 (HTM.out _ HM.out.r.g).2 hj hl)
         clear hq
         go_wp2_with (go_at_call 153; (with_reducible refine TM.out.mono ?_); rintro e w5 ⟨rfl, hd5⟩; have HM5 := Lib.hid (HM.out.step hbw hd5); clear hd5; have HP := Lib.hid ((HM5.out.put0 hbw t).below hbw ((Below.refl _ _).alloc (Nat.le_refl _) (.cells #[.int .i64 t.kind, .string (B t.text), .string (B t.type), .string (B t.lang)] 54))); have x0 := HM5.out.q.cell (j := 0) (by simp [quadC, termC]); have y0 := HM5.out.q.free (j := 0) (by simp [quadC, termC]); have x1 := HM5.out.q.cell (j := 1) (by simp [quadC, termC]); have y1 := HM5.out.q.free (j := 1) (by simp [quadC, termC]); have x2 := HM5.out.q.cell (j := 2) (by simp [quadC, termC]); have y2 := HM5.out.q.free (j := 2) (by simp [quadC, termC]); have x3 := HM5.out.q.cell (j := 3) (by simp [quadC, termC]); have y3 := HM5.out.q.free (j := 3) (by simp [quadC, termC]); have hlt5 := HM5.out.lt)
         go_roundw
         case rel => exact ⟨1, n, ⟨t, q.p, q.o, q.g⟩, by go_num, by omega, hn, HE, HP⟩
         case measure => simp [intOf]
   · have ix := fun (u : World) => (show (Instr.index 221 (.agg #[.pointer (some ⟨w.heap.size + 1, 0, none⟩), .pointer (some ⟨w.heap.size + 1, 4, none⟩), .pointer (some ⟨w.heap.size + 1, 8, none⟩), .pointer (some ⟨w.heap.size + 1, 12, none⟩)]) (.int .i64 1)).run Tryz.prog u = .ok (.pointer (some ⟨w.heap.size + 1, 4, none⟩)) u by kernel_rfl)
     have is := fun (u : World) => (show (Instr.index 224 (.agg #[.string ⟨#[60, 95]⟩, .string ⟨#[60]⟩, .string ⟨#[60, 95, 34]⟩, .string ⟨#[60, 95]⟩]) (.int .i64 1)).run Tryz.prog u = .ok (.string ⟨#[60]⟩) u by kernel_rfl)
     cases hq : slotF l j [60] with
     | inr f =>
       as_aux_lemma =>
         obtain ⟨p, c⟩ := f
         have HE := Lib.hid (quadSt_bad1 HS.out hq)
         have TM := Lib.hid (rdTerm_bad (s := ⟨#[60]⟩) hq HM.out.r.r (HTM.out _ HM.out.r.g).1 (HTM.out _ HM.out.r.g).2 hj hl)
         have HZ5 := Lib.hid (fun (u : World) (hg : wr.grownBy u (some b)) => (hg.block w.heap.size (Array.getElem?_eq_some_iff.1 HM.out.z).1 (by simp; omega)).trans HM.out.z)
         have HLT := Lib.hid (Array.getElem?_eq_some_iff.1 HM.out.z).1
         clear hq
         go_wp2_with (first
           | (go_at_call 153; (with_reducible refine TM.out.mono ?_); rintro e w5 ⟨eb, rfl, he, hg⟩; have HER := Lib.hid he; have HG5 := Lib.hid hg; clear he hg; have HZ := Lib.hid ((heap_alloc_old w5 (.cells #[.int .i64 0, .string ⟨#[]⟩, .string ⟨#[]⟩, .string ⟨#[]⟩] 54) (Nat.lt_of_lt_of_le HLT.out HG5.out.size)).trans (HZ5.out w5 HG5.out)))
           | (refine wpList_store_quad rfl (.tmp 2) (.tmp 34) rfl _ rfl noQuad rfl ?T1 ?o1 ?hs1 ?hg1 ?_; (case hg1 => exact HZ.out); (case hs1 => rfl)))
         obtain ⟨h0, h1, h2, h3, h4, h5, h6, h7, h8, h9, h10, h11, h12, h13, h14, h15⟩ := cells16 (row16 noQuad HZ.out)
         simp only [Nat.zero_add] at h1 h2 h3 h4 h5 h6 h7 h8 h9 h10 h11 h12 h13 h14 h15
         refine bodyPost_ret (v := .tuple #[qv noQuad, .iface 77 (.pointer (some ⟨eb, 0, none⟩))]) (by simp [results, Tryz.results119, go_sem, h0, h1, h2, h3, h4, h5, h6, h7, h8, h9, h10, h11, h12, h13, h14, h15]) rfl ?_
         rw [HE.out]
         exact ⟨eb, rfl, err_row HZ.out (HER.out.below ((Below.refl _ _).alloc (Nat.le_refl _) _)) _, grown_rowQ (grownR_trans (grownR_trans HM.out.r.g HG5.out) (below_grown ((Below.refl _ _).alloc (Nat.le_refl _) _) _)) (Nat.le_refl _) _⟩
     | inl f =>
       as_aux_lemma =>
         obtain ⟨t, n⟩ := f
         have HE := Lib.hid (quadSt_ok1 HS.out hq)
         have hn := slotF_le hj hq
         have TM := Lib.hid (rdTerm_ok (s := ⟨#[60]⟩) hq HM.out.r.r (HTM.out _ HM.out.r.g).1 (HTM.out _ HM.out.r.g).2 hj hl)
         clear hq
         go_wp2_with (go_at_call 153; (with_reducible refine TM.out.mono ?_); rintro e w5 ⟨rfl, hd5⟩; have HM5 := Lib.hid (HM.out.step hbw hd5); clear hd5; have HP := Lib.hid ((HM5.out.put1 hbw t).below hbw ((Below.refl _ _).alloc (Nat.le_refl _) (.cells #[.int .i64 t.kind, .string (B t.text), .string (B t.type), .string (B t.lang)] 54))); have x0 := HM5.out.q.cell (j := 4) (by simp [quadC, termC]); have y0 := HM5.out.q.free (j := 4) (by simp [quadC, termC]); have x1 := HM5.out.q.cell (j := 5) (by simp [quadC, termC]); have y1 := HM5.out.q.free (j := 5) (by simp [quadC, termC]); have x2 := HM5.out.q.cell (j := 6) (by simp [quadC, termC]); have y2 := HM5.out.q.free (j := 6) (by simp [quadC, termC]); have x3 := HM5.out.q.cell (j := 7) (by simp [quadC, termC]); have y3 := HM5.out.q.free (j := 7) (by simp [quadC, termC]); have hlt5 := HM5.out.lt)
         go_roundw
         case rel => exact ⟨2, n, ⟨q.s, t, q.o, q.g⟩, by go_num, by omega, hn, HE, HP⟩
         case measure => simp [intOf]
   · have ix := fun (u : World) => (show (Instr.index 221 (.agg #[.pointer (some ⟨w.heap.size + 1, 0, none⟩), .pointer (some ⟨w.heap.size + 1, 4, none⟩), .pointer (some ⟨w.heap.size + 1, 8, none⟩), .pointer (some ⟨w.heap.size + 1, 12, none⟩)]) (.int .i64 2)).run Tryz.prog u = .ok (.pointer (some ⟨w.heap.size + 1, 8, none⟩)) u by kernel_rfl)
     have is := fun (u : World) => (show (Instr.index 224 (.agg #[.string ⟨#[60, 95]⟩, .string ⟨#[60]⟩, .string ⟨#[60, 95, 34]⟩, .string ⟨#[60, 95]⟩]) (.int .i64 2)).run Tryz.prog u = .ok (.string ⟨#[60, 95, 34]⟩) u by kernel_rfl)
     cases hq : slotF l j [60, 95, 34] with
     | inr f =>
       as_aux_lemma =>
         obtain ⟨p, c⟩ := f
         have HE := Lib.hid (quadSt_bad2 HS.out hq)
         have TM := Lib.hid (rdTerm_bad (s := ⟨#[60, 95, 34]⟩) hq HM.out.r.r (HTM.out _ HM.out.r.g).1 (HTM.out _ HM.out.r.g).2 hj hl)
         have HZ5 := Lib.hid (fun (u : World) (hg : wr.grownBy u (some b)) => (hg.block w.heap.size (Array.getElem?_eq_some_iff.1 HM.out.z).1 (by simp; omega)).trans HM.out.z)
         have HLT := Lib.hid (Array.getElem?_eq_some_iff.1 HM.out.z).1
         clear hq
         go_wp2_with (first
           | (go_at_call 153; (with_reducible refine TM.out.mono ?_); rintro e w5 ⟨eb, rfl, he, hg⟩; have HER := Lib.hid he; have HG5 := Lib.hid hg; clear he hg; have HZ := Lib.hid ((heap_alloc_old w5 (.cells #[.int .i64 0, .string ⟨#[]⟩, .string ⟨#[]⟩, .string ⟨#[]⟩] 54) (Nat.lt_of_lt_of_le HLT.out HG5.out.size)).trans (HZ5.out w5 HG5.out)))
           | (refine wpList_store_quad rfl (.tmp 2) (.tmp 34) rfl _ rfl noQuad rfl ?T1 ?o1 ?hs1 ?hg1 ?_; (case hg1 => exact HZ.out); (case hs1 => rfl)))
         obtain ⟨h0, h1, h2, h3, h4, h5, h6, h7, h8, h9, h10, h11, h12, h13, h14, h15⟩ := cells16 (row16 noQuad HZ.out)
         simp only [Nat.zero_add] at h1 h2 h3 h4 h5 h6 h7 h8 h9 h10 h11 h12 h13 h14 h15
         refine bodyPost_ret (v := .tuple #[qv noQuad, .iface 77 (.pointer (some ⟨eb, 0, none⟩))]) (by simp [results, Tryz.results119, go_sem, h0, h1, h2, h3, h4, h5, h6, h7, h8, h9, h10, h11, h12, h13, h14, h15]) rfl ?_
         rw [HE.out]
         exact ⟨eb, rfl, err_row HZ.out (HER.out.below ((Below.refl _ _).alloc (Nat.le_refl _) _)) _, grown_rowQ (grownR_trans (grownR_trans HM.out.r.g HG5.out) (below_grown ((Below.refl _ _).alloc (Nat.le_refl _) _) _)) (Nat.le_refl _) _⟩
     | inl f =>
       as_aux_lemma =>
         obtain ⟨t, n⟩ := f
         have HE := Lib.hid (quadSt_ok2 HS.out hq)
         have hn := slotF_le hj hq
         have TM := Lib.hid (rdTerm_ok (s := ⟨#[60, 95, 34]⟩) hq HM.out.r.r (HTM.out _ HM.out.r.g).1 (HTM.out _ HM.out.r.g).2 hj hl)
         clear hq
         go_wp2_with (go_at_call 153; (with_reducible refine TM.out.mono ?_); rintro e w5 ⟨rfl, hd5⟩; have HM5 := Lib.hid (HM.out.step hbw hd5); clear hd5; have HP := Lib.hid ((HM5.out.put2 hbw t).below hbw ((Below.refl _ _).alloc (Nat.le_refl _) (.cells #[.int .i64 t.kind, .string (B t.text), .string (B t.type), .string (B t.lang)] 54))); have x0 := HM5.out.q.cell (j := 8) (by simp [quadC, termC]); have y0 := HM5.out.q.free (j := 8) (by simp [quadC, termC]); have x1 := HM5.out.q.cell (j := 9) (by simp [quadC, termC]); have y1 := HM5.out.q.free (j := 9) (by simp [quadC, termC]); have x2 := HM5.out.q.cell (j := 10) (by simp [quadC, termC]); have y2 := HM5.out.q.free (j := 10) (by simp [quadC, termC]); have x3 := HM5.out.q.cell (j := 11) (by simp [quadC, termC]); have y3 := HM5.out.q.free (j := 11) (by simp [quadC, termC]); have hlt5 := HM5.out.lt)
         go_roundw
         case rel => exact ⟨3, n, ⟨q.s, q.p, t, q.g⟩, by go_num, by omega, hn, HE, HP⟩
         case measure => simp [intOf]
   · have ix := fun (u : World) => (show (Instr.index 221 (.agg #[.pointer (some ⟨w.heap.size + 1, 0, none⟩), .pointer (some ⟨w.heap.size + 1, 4, none⟩), .pointer (some ⟨w.heap.size + 1, 8, none⟩), .pointer (some ⟨w.heap.size + 1, 12, none⟩)]) (.int .i64 3)).run Tryz.prog u = .ok (.pointer (some ⟨w.heap.size + 1, 12, none⟩)) u by kernel_rfl)
     have is := fun (u : World) => (show (Instr.index 224 (.agg #[.string ⟨#[60, 95]⟩, .string ⟨#[60]⟩, .string ⟨#[60, 95, 34]⟩, .string ⟨#[60, 95]⟩]) (.int .i64 3)).run Tryz.prog u = .ok (.string ⟨#[60, 95]⟩) u by kernel_rfl)
     by_cases hd : l.getD j 0 = 46
     · have HE := Lib.hid (quadSt_dot3 HS.out hd)
       have SX : Hid (seesB l j [46] = true) := Lib.hid (by unfold seesB; rw [hd, decide_eq_true (getD_lt hd (by decide))]; rfl)
       have SE := Lib.hid (fun u (h : RdAt u b l j) => (SX.out ▸ rdSees_l l b j ⟨#[46]⟩ u h (by omega) : Calls Tryz.prog 118 #[.pointer (some ⟨b, 0, none⟩), .string ⟨#[46]⟩] u fun e w' => e = .returned (.bool true) /\ Below u.heap.size u w'))
       clear SX
       have hjl := getD_lt hd (by decide)
       clear hd
       as_aux_lemma =>
         go_wp2_with (first
             | (go_at_call 118; (with_reducible refine (SE.out _ HM.out.r.r).mono ?_); rintro e w2 ⟨rfl, hb2⟩; have HM2 := Lib.hid (HM.out.below hbw hb2); clear hb2)
             | (go_at_call 118; (with_reducible refine (SE.out _ HM2.out.r.r).mono ?_); rintro e w3 ⟨rfl, hb3⟩; have HM4 := Lib.hid ((HM2.out.below hbw hb3).set hbw (j + 1) (J := (j : Int) + 1) (by omega)); have HZ := Lib.hid HM4.out.z; have HR9 := Lib.hid (range_of HM4.out.q); obtain ⟨rs3, ra3, rf3⟩ := (HM2.out.below hbw hb3).r.r; clear hb3)
             | (refine wpList_load_quad rfl (.tmp 4) rfl (w.heap.size + 1) 0 rfl q ?hr ?_; (case hr => exact HR9.out))
             | (refine wpList_store_quad rfl (.tmp 2) (.tmp 53) rfl _ rfl q rfl ?T1 ?o1 ?hs1 ?hg1 ?_; (case hg1 => exact HZ.out); (case hs1 => rfl)))
         obtain ⟨h0, h1, h2, h3, h4, h5, h6, h7, h8, h9, h10, h11, h12, h13, h14, h15⟩ := cells16 (row16 q HZ.out)
         simp only [Nat.zero_add] at h1 h2 h3 h4 h5 h6 h7 h8 h9 h10 h11 h12 h13 h14 h15
         refine bodyPost_ret (v := .tuple #[qv q, .nilIface]) (by simp [results, Tryz.results119, go_sem, h0, h1, h2, h3, h4, h5, h6, h7, h8, h9, h10, h11, h12, h13, h14, h15]) rfl ?_
         rw [HE.out]
         exact ⟨rfl, HM4.out.r.rowed _⟩
     · have SX : Hid (seesB l j [46] = false) := Lib.hid (by unfold seesB; rw [List.contains_cons, beq_eq_false_iff_ne.2 hd]; simp)
       have SE := Lib.hid (fun u (h : RdAt u b l j) => (SX.out ▸ rdSees_l l b j ⟨#[46]⟩ u h (by omega) : Calls Tryz.prog 118 #[.pointer (some ⟨b, 0, none⟩), .string ⟨#[46]⟩] u fun e w' => e = .returned (.bool false) /\ Below u.heap.size u w'))
       clear SX
       cases hq : slotF l j [60, 95] with
       | inr f =>
         as_aux_lemma =>
           obtain ⟨p, c⟩ := f
           have HE := Lib.hid (quadSt_bad3 HS.out hd hq)
           have TM9 := Lib.hid (fun (u : World) (hm : QuadMem w u b l q j) => rdTerm_bad (s := ⟨#[60, 95]⟩) hq hm.r.r (HTM.out _ hm.r.g).1 (HTM.out _ hm.r.g).2 hj hl)
           clear hq
           go_wp2_with (first
             | (go_at_call 118; (with_reducible refine (SE.out _ HM.out.r.r).mono ?_); rintro e w2 ⟨rfl, hb2⟩; have HM2 := Lib.hid (HM.out.below hbw hb2); clear hb2)
             | (go_at_call 153; (with_reducible refine (TM9.out _ HM2.out).mono ?_); rintro e w5 ⟨eb, rfl, he, hg⟩; have HER := Lib.hid he; have HG5 := Lib.hid hg; clear he hg; have HZ := Lib.hid ((heap_alloc_old w5 (.cells #[.int .i64 0, .string ⟨#[]⟩, .string ⟨#[]⟩, .string ⟨#[]⟩] 54) (Nat.lt_of_lt_of_le (Array.getElem?_eq_some_iff.1 HM2.out.z).1 HG5.out.size)).trans ((HG5.out.block w.heap.size (Array.getElem?_eq_some_iff.1 HM2.out.z).1 (by simp; omega)).trans HM2.out.z)))
             | (refine wpList_store_quad rfl (.tmp 2) (.tmp 34) rfl _ rfl noQuad rfl ?T1 ?o1 ?hs1 ?hg1 ?_; (case hg1 => exact HZ.out); (case hs1 => rfl)))
           obtain ⟨h0, h1, h2, h3, h4, h5, h6, h7, h8, h9, h10, h11, h12, h13, h14, h15⟩ := cells16 (row16 noQuad HZ.out)
           simp only [Nat.zero_add] at h1 h2 h3 h4 h5 h6 h7 h8 h9 h10 h11 h12 h13 h14 h15
           refine bodyPost_ret (v := .tuple #[qv noQuad, .iface 77 (.pointer (some ⟨eb, 0, none⟩))]) (by simp [results, Tryz.results119, go_sem, h0, h1, h2, h3, h4, h5, h6, h7, h8, h9, h10, h11, h12, h13, h14, h15]) rfl ?_
           rw [HE.out]
           exact ⟨eb, rfl, err_row HZ.out (HER.out.below ((Below.refl _ _).alloc (Nat.le_refl _) _)) _, grown_rowQ (grownR_trans (grownR_trans HM2.out.r.g HG5.out) (below_grown ((Below.refl _ _).alloc (Nat.le_refl _) _) _)) (Nat.le_refl _) _⟩
       | inl f =>
         as_aux_lemma =>
           obtain ⟨t, n⟩ := f
           have HE := Lib.hid (quadSt_ok3 HS.out hd hq)
           have hn := slotF_le hj hq
           have TM9 := Lib.hid (fun (u : World) (hm : QuadMem w u b l q j) => rdTerm_ok (s := ⟨#[60, 95]⟩) hq hm.r.r (HTM.out _ hm.r.g).1 (HTM.out _ hm.r.g).2 hj hl)
           clear hq
           go_wp2_with (first
             | (go_at_call 118; (with_reducible refine (SE.out _ HM.out.r.r).mono ?_); rintro e w2 ⟨rfl, hb2⟩; have HM2 := Lib.hid (HM.out.below hbw hb2); clear hb2)
             | (go_at_call 153; (with_reducible refine (TM9.out _ HM2.out).mono ?_); rintro e w5 ⟨rfl, hd5⟩; have HM5 := Lib.hid (HM2.out.step hbw hd5); clear hd5; have HP := Lib.hid ((HM5.out.put3 hbw t).below hbw ((Below.refl _ _).alloc (Nat.le_refl _) (.cells #[.int .i64 t.kind, .string (B t.text), .string (B t.type), .string (B t.lang)] 54))); have x0 := HM5.out.q.cell (j := 12) (by simp [quadC, termC]); have y0 := HM5.out.q.free (j := 12) (by simp [quadC, termC]); have x1 := HM5.out.q.cell (j := 13) (by simp [quadC, termC]); have y1 := HM5.out.q.free (j := 13) (by simp [quadC, termC]); have x2 := HM5.out.q.cell (j := 14) (by simp [quadC, termC]); have y2 := HM5.out.q.free (j := 14) (by simp [quadC, termC]); have x3 := HM5.out.q.cell (j := 15) (by simp [quadC, termC]); have y3 := HM5.out.q.free (j := 15) (by simp [quadC, termC]); have hlt5 := HM5.out.lt))
           go_roundw
           case rel => exact ⟨4, n, ⟨q.s, q.p, q.o, t⟩, by go_num, by omega, hn, HE, HP⟩
           case measure => simp [intOf]
   · by_cases hd : l.getD j 0 = 46
     · have HE := Lib.hid (quadSt_dot4 HS.out hd)
       have SX : Hid (seesB l j [46] = true) := Lib.hid (by unfold seesB; rw [hd, decide_eq_true (getD_lt hd (by decide))]; rfl)
       have SE := Lib.hid (fun u (h : RdAt u b l j) => (SX.out ▸ rdSees_l l b j ⟨#[46]⟩ u h (by omega) : Calls Tryz.prog 118 #[.pointer (some ⟨b, 0, none⟩), .string ⟨#[46]⟩] u fun e w' => e = .returned (.bool true) /\ Below u.heap.size u w'))
       clear SX
       have hjl := getD_lt hd (by decide)
       clear hd
       as_aux_lemma =>
         go_wp2_with (first
             | (go_at_call 118; (with_reducible refine (SE.out _ HM.out.r.r).mono ?_); rintro e w3 ⟨rfl, hb3⟩; have HM4 := Lib.hid ((HM.out.below hbw hb3).set hbw (j + 1) (J := (j : Int) + 1) (by omega)); have HZ := Lib.hid HM4.out.z; have HR9 := Lib.hid (range_of HM4.out.q); obtain ⟨rs3, ra3, rf3⟩ := (HM.out.below hbw hb3).r.r; clear hb3)
             | (refine wpList_load_quad rfl (.tmp 4) rfl (w.heap.size + 1) 0 rfl q ?hr ?_; (case hr => exact HR9.out))
             | (refine wpList_store_quad rfl (.tmp 2) (.tmp 53) rfl _ rfl q rfl ?T1 ?o1 ?hs1 ?hg1 ?_; (case hg1 => exact HZ.out); (case hs1 => rfl)))
         obtain ⟨h0, h1, h2, h3, h4, h5, h6, h7, h8, h9, h10, h11, h12, h13, h14, h15⟩ := cells16 (row16 q HZ.out)
         simp only [Nat.zero_add] at h1 h2 h3 h4 h5 h6 h7 h8 h9 h10 h11 h12 h13 h14 h15
         refine bodyPost_ret (v := .tuple #[qv q, .nilIface]) (by simp [results, Tryz.results119, go_sem, h0, h1, h2, h3, h4, h5, h6, h7, h8, h9, h10, h11, h12, h13, h14, h15]) rfl ?_
         rw [HE.out]
         exact ⟨rfl, HM4.out.r.rowed _⟩
     · have HE := Lib.hid (quadSt_end4 HS.out hd)
       have SX : Hid (seesB l j [46] = false) := Lib.hid (by unfold seesB; rw [List.contains_cons, beq_eq_false_iff_ne.2 hd]; simp)
       have SE := Lib.hid (fun u (h : RdAt u b l j) => (SX.out ▸ rdSees_l l b j ⟨#[46]⟩ u h (by omega) : Calls Tryz.prog 118 #[.pointer (some ⟨b, 0, none⟩), .string ⟨#[46]⟩] u fun e w' => e = .returned (.bool false) /\ Below u.heap.size u w'))
       clear SX
       clear hd
       as_aux_lemma =>
       go_wp2_with (first
         | (go_at_call 118; (with_reducible refine (SE.out _ HM.out.r.r).mono ?_); rintro e w2 ⟨rfl, hb2⟩; have HM2 := Lib.hid (HM.out.below hbw hb2); clear hb2)
         | (go_at_call 154; (refine (rdWrong_l l b j 90 _ HM2.out.r.r).mono ?_); rintro e w5 ⟨rfl, rfl⟩; have HZ := Lib.hid ((heap_alloc_old w2 (.cells #[.int .i64 (j : Int), .iface 28 (.int .i64 90)] 79) (Array.getElem?_eq_some_iff.1 HM2.out.z).1).trans HM2.out.z))
         | (refine wpList_store_quad rfl (.tmp 2) (.tmp 43) rfl _ rfl noQuad rfl ?T1 ?o1 ?hs1 ?hg1 ?_; (case hg1 => exact HZ.out); (case hs1 => rfl)))
       obtain ⟨h0, h1, h2, h3, h4, h5, h6, h7, h8, h9, h10, h11, h12, h13, h14, h15⟩ := cells16 (row16 noQuad HZ.out)
       simp only [Nat.zero_add] at h1 h2 h3 h4 h5 h6 h7 h8 h9 h10 h11 h12 h13 h14 h15
       refine bodyPost_ret (v := .tuple #[qv noQuad, .iface 77 (.pointer (some ⟨w2.heap.size, 0, none⟩))]) (by simp [results, Tryz.results119, go_sem, h0, h1, h2, h3, h4, h5, h6, h7, h8, h9, h10, h11, h12, h13, h14, h15]) rfl ?_
       rw [HE.out]
       exact ⟨_, rfl, err_row HZ.out (err_new w2 j 90) _, grown_rowQ (grownR_trans HM2.out.r.g (below_grown ((Below.refl _ _).alloc (Nat.le_refl _) _) _)) (Nat.le_refl _) _⟩
end Go.Proofs.YtmnigckpejcaeaaGreatDoor
namespace Go.Proofs.YtmnigckpejcaeaaGreatDoor
open Go.RowKit
set_option maxRecDepth 100000
def LinePost (w' : World) (e : Ending) : Option QuadL ⊕ (Nat × Int) -> Prop
 | .inl (some q) => e = .returned (.tuple #[qv q, .bool true, .nilIface])
 | .inl none => e = .returned (.tuple #[qv noQuad, .bool false, .nilIface])
 | .inr (p, c) => ∃ eb, e = .returned (.tuple #[qv noQuad, .bool false, .iface 77 (.pointer (some ⟨eb, 0, none⟩))]) /\ ErrIs w' (.iface 77 (.pointer (some ⟨eb, 0, none⟩))) (.inr (p, c))
theorem blkF_idem (l : List UInt8) : ∀ (k i : Nat), l.length - i <= k -> blkF l (blkF l i) = blkF l i
 | k, i, hk => by
   by_cases h : l.length <= i
   · rw [blkF_end h, blkF_end h]
   by_cases hc : l.getD i 0 = 32 \/ l.getD i 0 = 9
   · rw [blkF_go (by omega) hc]
     match k, hk with
     | 0, hk => omega
     | k + 1, hk => exact blkF_idem l k (i + 1) (by omega)
   · rw [blkF_stop (by omega) hc, blkF_stop (by omega) hc]
theorem restF_idem (l : List UInt8) (i : Nat) : restF' l (blkF l i) = restF' l i := by
 unfold restF'
 rw [blkF_idem l l.length i (by omega)]
structure LnMem (w wr : World) (g : Nat) (l : List UInt8) (j : Nat) (x : QuadL) : Prop where
 b : Below w.heap.size w wr
 r : RdAt wr (w.heap.size + 1) l j
 z : wr.heap[w.heap.size]? = some (.cells (quadC noQuad).toArray 56 (0, 0))
 y : wr.heap[g]? = some (.cells (quadC x).toArray 56 (0, 0))
 g : w.heap.size + 1 < g
theorem LnMem.step {w wr u : World} {g i j : Nat} {l : List UInt8} {x : QuadL} (h : LnMem w wr g l i x) (h2 : wr.grownBy u (some (w.heap.size + 1))) (hr : RdAt u (w.heap.size + 1) l j) : LnMem w u g l j x :=
 ⟨h.b.grown h2 h.b.size (fun k hk => by cases hk; omega), hr,
   (h2.block w.heap.size (Array.getElem?_eq_some_iff.1 h.z).1 (by simp)).trans h.z,
   (h2.block g (Array.getElem?_eq_some_iff.1 h.y).1 (by have := h.g; simp; omega)).trans h.y, h.g⟩
theorem LnMem.below {w wr u : World} {g i : Nat} {l : List UInt8} {x : QuadL} (h : LnMem w wr g l i x) (h2 : Below wr.heap.size wr u) : LnMem w u g l i x := h.step (below_grown h2 _) (h.r.below h2)
theorem LnMem.put {w wr : World} {g i : Nat} {l : List UInt8} {x : QuadL} (h : LnMem w wr g l i x) (q : QuadL) : LnMem w (wr.setRow g (quadC q).toArray) g l i q := by
 have hg := h.g
 have e : ∀ k, k ≠ g -> (wr.setRow g (quadC q).toArray).heap[k]? = wr.heap[k]? := fun k hk => setRow_other _ _ _ _ hk
 have hrow : (wr.setRow g (quadC q).toArray).heap[g]? = some (.cells (quadC q).toArray 56 (0, 0)) := setRow_heap _ _ _ _ _ _ h.y
 refine ⟨?_, ⟨?_, ?_, ?_⟩, ?_, hrow, hg⟩
 · exact ⟨h.b.os, h.b.tape, h.b.output, by simpa using h.b.size, fun k hk => by rw [e k (by omega)]; exact h.b.block k hk⟩
 · rw [World.cell?_of_block (e (w.heap.size + 1) (by omega))]; exact h.r.s
 · rw [World.cell?_of_block (e (w.heap.size + 1) (by omega))]; exact h.r.a
 · have := h.r.f
   simp only [World.frozen?] at this ⊢
   rw [e (w.heap.size + 1) (by omega)]
   exact this
 · rw [e _ (by omega)]; exact h.z
theorem below_row {w W : World} {g : Nat} (h : Below w.heap.size w W) (hg : w.heap.size <= g) (cs : Array Value) : Below w.heap.size w (W.setRow g cs) :=
 ⟨h.os, h.tape, h.output, by simpa using h.size, fun k hk => by rw [setRow_other _ _ _ _ (by omega)]; exact h.block k hk⟩
theorem LnMem.tm {w wr : World} {g i : Nat} {l : List UInt8} {x : QuadL} (h : LnMem w wr g l i x) (hTM : ∀ u, Below w.heap.size w u -> TabAt u /\ MaxAt u) : ∀ v, wr.grownBy v (some (w.heap.size + 1)) -> TabAt v /\ MaxAt v :=
 fun v hv => hTM v (h.b.grown hv h.b.size (fun k hk => by cases hk; omega))
theorem LnMem.kept {w wr u : World} {g i : Nat} {l : List UInt8} {x : QuadL} (h : LnMem w wr g l i x) (h2 : wr.grownBy u (some (w.heap.size + 1))) :
   Below w.heap.size w u /\ u.heap[w.heap.size]? = some (.cells (quadC noQuad).toArray 56 (0, 0)) /\ u.heap[g]? = some (.cells (quadC x).toArray 56 (0, 0)) :=
 ⟨h.b.grown h2 h.b.size (fun k hk => by cases hk; omega), (h2.block w.heap.size (Array.getElem?_eq_some_iff.1 h.z).1 (by simp)).trans h.z, (h2.block g (Array.getElem?_eq_some_iff.1 h.y).1 (by have := h.g; simp; omega)).trans h.y⟩
theorem rdQuad_bad {l : List UInt8} {b j p : Nat} {c : Int} {u : World} (hs : stmtF l j = .inr (p, c)) (hr : RdAt u b l j) (hTM : ∀ v, u.grownBy v (some b) -> TabAt v /\ MaxAt v) (hi : j <= l.length) (hl : l.length <= 16777216) :
   Calls Tryz.prog 119 #[.pointer (some ⟨b, 0, none⟩)] u fun e w' => ∃ eb, e = .returned (.tuple #[qv noQuad, .iface 77 (.pointer (some ⟨eb, 0, none⟩))]) /\ ErrIs w' (.iface 77 (.pointer (some ⟨eb, 0, none⟩))) (.inr (p, c)) /\ u.grownBy w' (some b) :=
 (rdQuad_l l b j u hr hTM hi hl).mono fun e w' h => by rw [hs] at h; exact h
theorem rdQuad_ok {l : List UInt8} {b j n : Nat} {q : QuadL} {u : World} (hs : stmtF l j = .inl (q, n)) (hr : RdAt u b l j) (hTM : ∀ v, u.grownBy v (some b) -> TabAt v /\ MaxAt v) (hi : j <= l.length) (hl : l.length <= 16777216) :
   Calls Tryz.prog 119 #[.pointer (some ⟨b, 0, none⟩)] u fun e w' => e = .returned (.tuple #[qv q, .nilIface]) /\ RdTo u w' b l n :=
 (rdQuad_l l b j u hr hTM hi hl).mono fun e w' h => by rw [hs] at h; exact h
theorem rdRest_bad {l : List UInt8} {b j p : Nat} {c : Int} {u : World} (hs : restF' l j = some (p, c)) (hr : RdAt u b l j) (hi : j <= l.length) (hl : l.length <= 16777216) :
   Calls Tryz.prog 120 #[.pointer (some ⟨b, 0, none⟩)] u fun e w' => ∃ eb, e = .returned (.iface 77 (.pointer (some ⟨eb, 0, none⟩))) /\ ErrIs w' (.iface 77 (.pointer (some ⟨eb, 0, none⟩))) (.inr (p, c)) /\ u.grownBy w' (some b) :=
 (rdRest_l l b j u hr hi hl).mono fun e w' h => by rw [hs] at h; obtain ⟨⟨eb, h1, h2⟩, h3⟩ := h; exact ⟨eb, h1, h2, h3⟩
theorem rdRest_ok {l : List UInt8} {b j : Nat} {u : World} (hs : restF' l j = none) (hr : RdAt u b l j) (hi : j <= l.length) (hl : l.length <= 16777216) :
   Calls Tryz.prog 120 #[.pointer (some ⟨b, 0, none⟩)] u fun e w' => e = .returned .nilIface /\ u.grownBy w' (some b) :=
 (rdRest_l l b j u hr hi hl).mono fun e w' h => by rw [hs] at h; exact h
set_option maxHeartbeats 12000000 in
theorem line_l (l : List UInt8) (w : World) (hT : TabAt w) (hM : MaxAt w) (hl : l.length <= 16777216) :
   Calls Tryz.prog 86 #[.string (B l)] w fun e w' => LinePost w' e (lineAt l) /\ Below w.heap.size w w' := by
 have hA : Below w.heap.size w ((w.alloc (.cells (quadC noQuad).toArray 56)).alloc (.cells #[.string (B l), .int .i64 0] 180)) := ((Below.refl _ _).alloc (Nat.le_refl _) _).alloc (by simp) _
 have hR0 : RdAt ((w.alloc (.cells (quadC noQuad).toArray 56)).alloc (.cells #[.string (B l), .int .i64 0] 180)) (w.heap.size + 1) l 0 := by
   have := rowAt_of_heap (w := (w.alloc (.cells (quadC noQuad).toArray 56)).alloc (.cells #[.string (B l), .int .i64 0] 180)) (L := [.string (B l), .int .i64 0]) (t := 180) (heap_alloc_new _ _)
   rw [World.size_alloc] at this
   exact ⟨this.cell (j := 0) (by simp), this.cell (j := 1) (by simp), this.free (j := 1) (by simp)⟩
 have BL := Lib.hid (rdBlanks_l l (w.heap.size + 1) 0 _ hR0 (Nat.zero_le _) (by omega))
 have hkb := (blkF_bound l l.length 0 (by omega) (Nat.zero_le _)).2
 have M0 : Hid (∀ u, RdAt u (w.heap.size + 1) l (blkF l 0) -> ((w.alloc (.cells (quadC noQuad).toArray 56)).alloc (.cells #[.string (B l), .int .i64 0] 180)).grownBy u (some (w.heap.size + 1)) -> LnMem w (u.alloc (.cells (quadC noQuad).toArray 56)) u.heap.size l (blkF l 0) noQuad) := Lib.hid (fun u hr hg => by
   have hs : w.heap.size + 1 < u.heap.size := hr.lt
   have hb : Below w.heap.size w u := hA.grown hg hA.size (fun k hk => by cases hk; omega)
   have hz : u.heap[w.heap.size]? = some (.cells (quadC noQuad).toArray 56 (0, 0)) := by
     rw [hg.block w.heap.size (by simp; omega) (by simp), heap_alloc_old _ _ (by simp)]
     exact heap_alloc_new _ _
   have hb2 : Below u.heap.size u (u.alloc (.cells (quadC noQuad).toArray 56)) := (Below.refl _ _).alloc (Nat.le_refl _) _
   exact ⟨hb.alloc hb.size _, hr.below hb2, by rw [heap_alloc_old _ _ (by omega)]; exact hz, heap_alloc_new _ _, hs⟩)
 have HTM := Lib.hid (fun (u : World) (h : Below w.heap.size w u) => And.intro (hT.below h) (hM.below h))
 clear hT hM hR0 hA
 have HL : Hid (lineAt l = if blkF l 0 < l.length /\ l.getD (blkF l 0) 0 ≠ 35 then (match stmtF l (blkF l 0) with
   | .inr f => .inr f
   | .inl (q, n) => match restF' l n with
     | some f => .inr f
     | none => .inl (some q)) else match restF' l (blkF l 0) with
   | some f => .inr f
   | none => .inl none) := Lib.hid (by rw [restF_idem]; rfl)
 obtain ⟨k, hk⟩ : ∃ k, blkF l 0 = k := ⟨_, rfl⟩
 rw [hk] at BL M0 HL hkb
 have j0 : 0 <= (k : Int) := by omega
 clear hk
 have hsb : seesB l k [35] = true ↔ k < l.length /\ l.getD k 0 = 35 := by
   unfold seesB
   rw [Bool.and_eq_true, decide_eq_true_eq, List.contains_iff_mem, List.mem_singleton]
 have SE0 := fun (u : World) (h : RdAt u (w.heap.size + 1) l k) => rdSees_l l (w.heap.size + 1) k ⟨#[35]⟩ u h (by omega)
 obtain ⟨sb, hsb2⟩ : ∃ sb, seesB l k [35] = sb := ⟨_, rfl⟩
 have SE : Hid (∀ (u : World) (_ : RdAt u (w.heap.size + 1) l k), Calls Tryz.prog 118 #[.pointer (some ⟨w.heap.size + 1, 0, none⟩), .string ⟨#[35]⟩] u fun e w' => e = .returned (.bool sb) /\ Below u.heap.size u w') := Lib.hid (fun u h => hsb2 ▸ SE0 u h)
 rw [hsb2] at hsb
 clear SE0 hsb2
 by_cases hlt : k < l.length
 · have e1 : decide (k < l.length) = true := decide_eq_true hlt
   have e1' : decide ((k : Int) < (l.length : Int)) = true := decide_eq_true (by omega)
   cases sb with
   | true =>
     have h35 := (hsb.1 rfl).2
     rw [if_neg (fun h => h.2 h35)] at HL
     clear hsb h35
     cases hq : restF' l k with
     | some f =>
       obtain ⟨p, c⟩ := f
       have HE : Hid (lineAt l = .inr (p, c)) := Lib.hid (by rw [HL.out, hq])
       have RS := Lib.hid (fun (u : World) (h : RdAt u (w.heap.size + 1) l k) => rdRest_bad hq h hkb hl)
       clear hq HL
       as_aux_lemma =>
         go_enter Tryz.func86, Tryz.ntmps86
         go_wp2_with (first
           | (go_at_call 117; (refine BL.out.mono ?_); rintro e w2 ⟨rfl, hr2, hg2⟩; have HM2 := Lib.hid (M0.out w2 hr2 hg2); have hlt2 := hr2.lt; obtain ⟨s2, a2, _⟩ := hr2; clear hg2)
           | (go_at_call 118; (refine (SE.out _ HM2.out.r).mono ?_); rintro e w3 ⟨rfl, hb3⟩; have HM3 := Lib.hid (HM2.out.below hb3); clear hb3)
           | (go_at_call 120; (refine (RS.out _ HM3.out.r).mono ?_); rintro e w6 ⟨eb, rfl, he, hg⟩; have HER := Lib.hid he; have HB6 := Lib.hid (HM3.out.kept hg).1; have HZ := Lib.hid (HM3.out.kept hg).2.1; clear he hg)
           | (refine wpList_store_quad rfl (.tmp 2) (.tmp 43) rfl _ rfl noQuad rfl ?T1 ?o1 ?hs1 ?hg1 ?_; (case hg1 => exact HZ.out); (case hs1 => rfl)))
         obtain ⟨h0, h1, h2, h3, h4, h5, h6, h7, h8, h9, h10, h11, h12, h13, h14, h15⟩ := cells16 (row16 noQuad HZ.out)
         simp only [Nat.zero_add] at h1 h2 h3 h4 h5 h6 h7 h8 h9 h10 h11 h12 h13 h14 h15
         refine bodyPost_ret (v := .tuple #[qv noQuad, .bool false, .iface 77 (.pointer (some ⟨eb, 0, none⟩))]) (by simp [results, Tryz.results86, go_sem, h0, h1, h2, h3, h4, h5, h6, h7, h8, h9, h10, h11, h12, h13, h14, h15]) rfl ?_
         rw [HE.out]
         exact ⟨⟨eb, rfl, err_row HZ.out HER.out _⟩, below_row HB6.out (Nat.le_refl _) _⟩
     | none =>
       have HE : Hid (lineAt l = .inl none) := Lib.hid (by rw [HL.out, hq])
       have RS := Lib.hid (fun (u : World) (h : RdAt u (w.heap.size + 1) l k) => rdRest_ok hq h hkb hl)
       clear hq HL
       as_aux_lemma =>
         go_enter Tryz.func86, Tryz.ntmps86
         go_wp2_with (first
           | (go_at_call 117; (refine BL.out.mono ?_); rintro e w2 ⟨rfl, hr2, hg2⟩; have HM2 := Lib.hid (M0.out w2 hr2 hg2); have hlt2 := hr2.lt; obtain ⟨s2, a2, _⟩ := hr2; clear hg2)
           | (go_at_call 118; (refine (SE.out _ HM2.out.r).mono ?_); rintro e w3 ⟨rfl, hb3⟩; have HM3 := Lib.hid (HM2.out.below hb3); clear hb3)
           | (go_at_call 120; (refine (RS.out _ HM3.out.r).mono ?_); rintro e w6 ⟨rfl, hg⟩; have HB6 := Lib.hid (HM3.out.kept hg).1; have HZ := Lib.hid (HM3.out.kept hg).2.1; have HR9 := Lib.hid (range_row (HM3.out.kept hg).2.2); clear hg)
           | (refine wpList_load_quad rfl (.tmp 6) rfl _ 0 rfl noQuad ?hr ?_; (case hr => exact HR9.out))
           | (refine wpList_store_quad rfl (.tmp 2) (.tmp 45) rfl _ rfl noQuad rfl ?T1 ?o1 ?hs1 ?hg1 ?_; (case hg1 => exact HZ.out); (case hs1 => rfl)))
         obtain ⟨h0, h1, h2, h3, h4, h5, h6, h7, h8, h9, h10, h11, h12, h13, h14, h15⟩ := cells16 (row16 noQuad HZ.out)
         simp only [Nat.zero_add] at h1 h2 h3 h4 h5 h6 h7 h8 h9 h10 h11 h12 h13 h14 h15
         refine bodyPost_ret (v := .tuple #[qv noQuad, .bool false, .nilIface]) (by simp [results, Tryz.results86, go_sem, h0, h1, h2, h3, h4, h5, h6, h7, h8, h9, h10, h11, h12, h13, h14, h15]) rfl ?_
         rw [HE.out]
         exact ⟨rfl, below_row HB6.out (Nat.le_refl _) _⟩
   | false =>
     have h35 : l.getD k 0 ≠ 35 := fun h => by have := hsb.2 ⟨hlt, h⟩; cases this
     rw [if_pos ⟨hlt, h35⟩] at HL
     clear hsb h35
     cases hq : stmtF l k with
     | inr f =>
       obtain ⟨p, c⟩ := f
       have HE : Hid (lineAt l = .inr (p, c)) := Lib.hid (by rw [HL.out, hq])
       have QB := Lib.hid (fun (u : World) (h : RdAt u (w.heap.size + 1) l k) (hb : ∀ v, u.grownBy v (some (w.heap.size + 1)) -> TabAt v /\ MaxAt v) => rdQuad_bad hq h hb hkb hl)
       clear hq HL
       as_aux_lemma =>
         go_enter Tryz.func86, Tryz.ntmps86
         go_wp2_with (first
           | (go_at_call 117; (refine BL.out.mono ?_); rintro e w2 ⟨rfl, hr2, hg2⟩; have HM2 := Lib.hid (M0.out w2 hr2 hg2); have hlt2 := hr2.lt; obtain ⟨s2, a2, _⟩ := hr2; clear hg2)
           | (go_at_call 118; (refine (SE.out _ HM2.out.r).mono ?_); rintro e w3 ⟨rfl, hb3⟩; have HM3 := Lib.hid (HM2.out.below hb3); clear hb3)
           | (go_at_call 119; (refine (QB.out _ HM3.out.r (HM3.out.tm HTM.out)).mono ?_); rintro e w4 ⟨eb, rfl, he, hg⟩; have HER := Lib.hid he; have HB6 := Lib.hid (HM3.out.kept hg).1; have HZ := Lib.hid ((heap_alloc_old w4 (.cells (quadC noQuad).toArray 56) (Array.getElem?_eq_some_iff.1 (HM3.out.kept hg).2.1).1).trans (HM3.out.kept hg).2.1); clear he hg)
           | (refine wpList_store_quad rfl (.tmp 8) (.tmp 32) rfl w4.heap.size rfl noQuad rfl 56 (quadC noQuad).toArray rfl (heap_alloc_new w4 _) ?_; rw [World.setRow_alloc_new])
           | (refine wpList_store_quad rfl (.tmp 2) (.tmp 36) rfl _ rfl noQuad rfl ?T1 ?o1 ?hs1 ?hg1 ?_; (case hg1 => exact HZ.out); (case hs1 => rfl)))
         obtain ⟨h0, h1, h2, h3, h4, h5, h6, h7, h8, h9, h10, h11, h12, h13, h14, h15⟩ := cells16 (row16 noQuad HZ.out)
         simp only [Nat.zero_add] at h1 h2 h3 h4 h5 h6 h7 h8 h9 h10 h11 h12 h13 h14 h15
         refine bodyPost_ret (v := .tuple #[qv noQuad, .bool false, .iface 77 (.pointer (some ⟨eb, 0, none⟩))]) (by simp [results, Tryz.results86, go_sem, h0, h1, h2, h3, h4, h5, h6, h7, h8, h9, h10, h11, h12, h13, h14, h15]) rfl ?_
         rw [HE.out]
         exact ⟨⟨eb, rfl, err_row HZ.out (HER.out.below ((Below.refl _ _).alloc (Nat.le_refl _) _)) _⟩, below_row (HB6.out.alloc HB6.out.size _) (Nat.le_refl _) _⟩
     | inl f =>
       obtain ⟨q, n⟩ := f
       have hn := (stmtF_end hq).2
       have QB := Lib.hid (fun (u : World) (h : RdAt u (w.heap.size + 1) l k) (hb : ∀ v, u.grownBy v (some (w.heap.size + 1)) -> TabAt v /\ MaxAt v) => rdQuad_ok hq h hb hkb hl)
       rw [hq] at HL
       simp only at HL
       clear hq
       cases hq : restF' l n with
       | some f =>
         obtain ⟨p, c⟩ := f
         have HE : Hid (lineAt l = .inr (p, c)) := Lib.hid (by rw [HL.out, hq])
         have RS := Lib.hid (fun (u : World) (h : RdAt u (w.heap.size + 1) l n) => rdRest_bad hq h hn hl)
         clear hq HL
         as_aux_lemma =>
           go_enter Tryz.func86, Tryz.ntmps86
           go_wp2_with (first
             | (go_at_call 117; (refine BL.out.mono ?_); rintro e w2 ⟨rfl, hr2, hg2⟩; have HM2 := Lib.hid (M0.out w2 hr2 hg2); have hlt2 := hr2.lt; obtain ⟨s2, a2, _⟩ := hr2; clear hg2)
             | (go_at_call 118; (refine (SE.out _ HM2.out.r).mono ?_); rintro e w3 ⟨rfl, hb3⟩; have HM3 := Lib.hid (HM2.out.below hb3); clear hb3)
             | (go_at_call 119; (refine (QB.out _ HM3.out.r (HM3.out.tm HTM.out)).mono ?_); rintro e w4 ⟨rfl, hd⟩; have HM4 := Lib.hid (HM3.out.step hd.g hd.r); clear hd)
             | (refine wpList_store_quad rfl (.tmp 8) (.tmp 32) rfl w4.heap.size rfl q rfl 56 (quadC noQuad).toArray rfl (heap_alloc_new w4 _) ?_; rw [World.setRow_alloc_new]; have HM6 := Lib.hid (HM4.out.below ((Below.refl _ _).alloc (Nat.le_refl _) (.cells (quadC q).toArray 56))))
             | (refine wpList_load_quad rfl (.tmp 8) rfl w4.heap.size 0 rfl q (range_row (heap_alloc_new w4 _)) ?_)
             | (refine wpList_store_quad rfl (.tmp 6) (.tmp 38) rfl _ rfl q rfl 56 (quadC noQuad).toArray rfl HM6.out.y ?_; have HM5 := Lib.hid (HM6.out.put q))
             | (go_at_call 120; (refine (RS.out _ HM5.out.r).mono ?_); rintro e w6 ⟨eb, rfl, he, hg⟩; have HER := Lib.hid he; have HB6 := Lib.hid (HM5.out.kept hg).1; have HZ := Lib.hid (HM5.out.kept hg).2.1; clear he hg)
             | (refine wpList_store_quad rfl (.tmp 2) (.tmp 43) rfl _ rfl noQuad rfl ?T1 ?o1 ?hs1 ?hg1 ?_; (case hg1 => exact HZ.out); (case hs1 => rfl)))
           obtain ⟨h0, h1, h2, h3, h4, h5, h6, h7, h8, h9, h10, h11, h12, h13, h14, h15⟩ := cells16 (row16 noQuad HZ.out)
           simp only [Nat.zero_add] at h1 h2 h3 h4 h5 h6 h7 h8 h9 h10 h11 h12 h13 h14 h15
           refine bodyPost_ret (v := .tuple #[qv noQuad, .bool false, .iface 77 (.pointer (some ⟨eb, 0, none⟩))]) (by simp [results, Tryz.results86, go_sem, h0, h1, h2, h3, h4, h5, h6, h7, h8, h9, h10, h11, h12, h13, h14, h15]) rfl ?_
           rw [HE.out]
           exact ⟨⟨eb, rfl, err_row HZ.out HER.out _⟩, below_row HB6.out (Nat.le_refl _) _⟩
       | none =>
         have HE : Hid (lineAt l = .inl (some q)) := Lib.hid (by rw [HL.out, hq])
         have RS := Lib.hid (fun (u : World) (h : RdAt u (w.heap.size + 1) l n) => rdRest_ok hq h hn hl)
         clear hq HL
         as_aux_lemma =>
           go_enter Tryz.func86, Tryz.ntmps86
           go_wp2_with (first
             | (go_at_call 117; (refine BL.out.mono ?_); rintro e w2 ⟨rfl, hr2, hg2⟩; have HM2 := Lib.hid (M0.out w2 hr2 hg2); have hlt2 := hr2.lt; obtain ⟨s2, a2, _⟩ := hr2; clear hg2)
             | (go_at_call 118; (refine (SE.out _ HM2.out.r).mono ?_); rintro e w3 ⟨rfl, hb3⟩; have HM3 := Lib.hid (HM2.out.below hb3); clear hb3)
             | (go_at_call 119; (refine (QB.out _ HM3.out.r (HM3.out.tm HTM.out)).mono ?_); rintro e w4 ⟨rfl, hd⟩; have HM4 := Lib.hid (HM3.out.step hd.g hd.r); clear hd)
             | (refine wpList_store_quad rfl (.tmp 8) (.tmp 32) rfl w4.heap.size rfl q rfl 56 (quadC noQuad).toArray rfl (heap_alloc_new w4 _) ?_; rw [World.setRow_alloc_new]; have HM6 := Lib.hid (HM4.out.below ((Below.refl _ _).alloc (Nat.le_refl _) (.cells (quadC q).toArray 56))))
             | (refine wpList_load_quad rfl (.tmp 8) rfl w4.heap.size 0 rfl q (range_row (heap_alloc_new w4 _)) ?_)
             | (refine wpList_store_quad rfl (.tmp 6) (.tmp 38) rfl _ rfl q rfl 56 (quadC noQuad).toArray rfl HM6.out.y ?_; have HM5 := Lib.hid (HM6.out.put q))
             | (go_at_call 120; (refine (RS.out _ HM5.out.r).mono ?_); rintro e w6 ⟨rfl, hg⟩; have HB6 := Lib.hid (HM5.out.kept hg).1; have HZ := Lib.hid (HM5.out.kept hg).2.1; have HR9 := Lib.hid (range_row (HM5.out.kept hg).2.2); clear hg)
             | (have _t := HM5; refine wpList_load_quad rfl (.tmp 6) rfl _ 0 rfl q ?hr ?_; (case hr => exact HR9.out))
             | (refine wpList_store_quad rfl (.tmp 2) (.tmp 45) rfl _ rfl q rfl ?T1 ?o1 ?hs1 ?hg1 ?_; (case hg1 => exact HZ.out); (case hs1 => rfl)))
           obtain ⟨h0, h1, h2, h3, h4, h5, h6, h7, h8, h9, h10, h11, h12, h13, h14, h15⟩ := cells16 (row16 q HZ.out)
           simp only [Nat.zero_add] at h1 h2 h3 h4 h5 h6 h7 h8 h9 h10 h11 h12 h13 h14 h15
           refine bodyPost_ret (v := .tuple #[qv q, .bool true, .nilIface]) (by simp [results, Tryz.results86, go_sem, h0, h1, h2, h3, h4, h5, h6, h7, h8, h9, h10, h11, h12, h13, h14, h15]) rfl ?_
           rw [HE.out]
           exact ⟨rfl, below_row HB6.out (Nat.le_refl _) _⟩
 · have e1 : decide (k < l.length) = false := decide_eq_false hlt
   have e1' : decide ((k : Int) < (l.length : Int)) = false := decide_eq_false (by omega)
   rw [if_neg (fun h => hlt h.1)] at HL
   clear hsb
   cases hq : restF' l k with
   | some f =>
     obtain ⟨p, c⟩ := f
     have HE : Hid (lineAt l = .inr (p, c)) := Lib.hid (by rw [HL.out, hq])
     have RS := Lib.hid (fun (u : World) (h : RdAt u (w.heap.size + 1) l k) => rdRest_bad hq h hkb hl)
     clear hq HL
     as_aux_lemma =>
       go_enter Tryz.func86, Tryz.ntmps86
       go_wp2_with (first
         | (go_at_call 117; (refine BL.out.mono ?_); rintro e w2 ⟨rfl, hr2, hg2⟩; have HM2 := Lib.hid (M0.out w2 hr2 hg2); have hlt2 := hr2.lt; obtain ⟨s2, a2, _⟩ := hr2; clear hg2)
         | (go_at_call 120; (refine (RS.out _ HM2.out.r).mono ?_); rintro e w6 ⟨eb, rfl, he, hg⟩; have HER := Lib.hid he; have HB6 := Lib.hid (HM2.out.kept hg).1; have HZ := Lib.hid (HM2.out.kept hg).2.1; clear he hg)
         | (refine wpList_store_quad rfl (.tmp 2) (.tmp 43) rfl _ rfl noQuad rfl ?T1 ?o1 ?hs1 ?hg1 ?_; (case hg1 => exact HZ.out); (case hs1 => rfl)))
       obtain ⟨h0, h1, h2, h3, h4, h5, h6, h7, h8, h9, h10, h11, h12, h13, h14, h15⟩ := cells16 (row16 noQuad HZ.out)
       simp only [Nat.zero_add] at h1 h2 h3 h4 h5 h6 h7 h8 h9 h10 h11 h12 h13 h14 h15
       refine bodyPost_ret (v := .tuple #[qv noQuad, .bool false, .iface 77 (.pointer (some ⟨eb, 0, none⟩))]) (by simp [results, Tryz.results86, go_sem, h0, h1, h2, h3, h4, h5, h6, h7, h8, h9, h10, h11, h12, h13, h14, h15]) rfl ?_
       rw [HE.out]
       exact ⟨⟨eb, rfl, err_row HZ.out HER.out _⟩, below_row HB6.out (Nat.le_refl _) _⟩
   | none =>
     have HE : Hid (lineAt l = .inl none) := Lib.hid (by rw [HL.out, hq])
     have RS := Lib.hid (fun (u : World) (h : RdAt u (w.heap.size + 1) l k) => rdRest_ok hq h hkb hl)
     clear hq HL
     as_aux_lemma =>
       go_enter Tryz.func86, Tryz.ntmps86
       go_wp2_with (first
         | (go_at_call 117; (refine BL.out.mono ?_); rintro e w2 ⟨rfl, hr2, hg2⟩; have HM2 := Lib.hid (M0.out w2 hr2 hg2); have hlt2 := hr2.lt; obtain ⟨s2, a2, _⟩ := hr2; clear hg2)
         | (go_at_call 120; (refine (RS.out _ HM2.out.r).mono ?_); rintro e w6 ⟨rfl, hg⟩; have HB6 := Lib.hid (HM2.out.kept hg).1; have HZ := Lib.hid (HM2.out.kept hg).2.1; have HR9 := Lib.hid (range_row (HM2.out.kept hg).2.2); clear hg)
         | (refine wpList_load_quad rfl (.tmp 6) rfl _ 0 rfl noQuad ?hr ?_; (case hr => exact HR9.out))
         | (refine wpList_store_quad rfl (.tmp 2) (.tmp 45) rfl _ rfl noQuad rfl ?T1 ?o1 ?hs1 ?hg1 ?_; (case hg1 => exact HZ.out); (case hs1 => rfl)))
       obtain ⟨h0, h1, h2, h3, h4, h5, h6, h7, h8, h9, h10, h11, h12, h13, h14, h15⟩ := cells16 (row16 noQuad HZ.out)
       simp only [Nat.zero_add] at h1 h2 h3 h4 h5 h6 h7 h8 h9 h10 h11 h12 h13 h14 h15
       refine bodyPost_ret (v := .tuple #[qv noQuad, .bool false, .nilIface]) (by simp [results, Tryz.results86, go_sem, h0, h1, h2, h3, h4, h5, h6, h7, h8, h9, h10, h11, h12, h13, h14, h15]) rfl ?_
       rw [HE.out]
       exact ⟨rfl, below_row HB6.out (Nat.le_refl _) _⟩
end Go.Proofs.YtmnigckpejcaeaaGreatDoor
namespace Go.Proofs.YtmnigckpejcaeaaGreatDoor
open Go.RowKit
set_option maxRecDepth 100000
set_option maxHeartbeats 3200000 in
theorem lineE_l (l : List UInt8) (w : World) (hT : TabAt w) (hM : MaxAt w) (hl : l.length <= 16777216) :
   Calls Tryz.prog 58 #[.string (B l)] w fun e w' => LinePost w' e (lineAt l) /\ Below w.heap.size w w' := by
 have hA : Below w.heap.size w (w.alloc (.cells (quadC noQuad).toArray 56)) := (Below.refl _ _).alloc (Nat.le_refl _) _
 have LN0 := line_l l (w.alloc (.cells (quadC noQuad).toArray 56)) (hT.below hA) (hM.below hA) hl
 have e0 : decide ((67108864 : Int) < (l.length : Int)) = false := decide_eq_false (by omega)
 have HR0 : Hid (∀ u, Below (w.alloc (.cells (quadC noQuad).toArray 56)).heap.size (w.alloc (.cells (quadC noQuad).toArray 56)) u -> Below w.heap.size w u /\ u.heap[w.heap.size]? = some (.cells (quadC noQuad).toArray 56 (0, 0))) := Lib.hid (fun u hu => by
   refine ⟨hA.trans (hu.mono hA.size), ?_⟩
   rw [hu.block w.heap.size (by simp)]
   exact heap_alloc_new _ _)
 obtain ⟨x, hx⟩ : ∃ x, lineAt l = x := ⟨_, rfl⟩
 rw [hx] at LN0 ⊢
 have LN := Lib.hid LN0
 clear LN0 hx hA hT hM
 rcases x with o | ⟨p, c⟩
 · cases o with
   | none =>
     go_enter Tryz.func58, Tryz.ntmps58
     go_wp2_with (first
       | (go_at_call 86; (refine LN.out.mono ?_); rintro e w4 ⟨rfl, hb4⟩; obtain ⟨hbb, hz⟩ := HR0.out w4 hb4; have HBB := Lib.hid hbb; have HZ := Lib.hid hz; clear hb4 hbb hz)
       | (refine wpList_store_quad rfl (.tmp 2) (.tmp 12) rfl _ rfl noQuad rfl ?T1 ?o1 ?hs1 ?hg1 ?_; (case hg1 => exact HZ.out); (case hs1 => rfl)))
     obtain ⟨h0, h1, h2, h3, h4, h5, h6, h7, h8, h9, h10, h11, h12, h13, h14, h15⟩ := cells16 (row16 noQuad HZ.out)
     simp only [Nat.zero_add] at h1 h2 h3 h4 h5 h6 h7 h8 h9 h10 h11 h12 h13 h14 h15
     refine bodyPost_ret (v := .tuple #[qv noQuad, .bool false, .nilIface]) (by simp [results, Tryz.results58, go_sem, h0, h1, h2, h3, h4, h5, h6, h7, h8, h9, h10, h11, h12, h13, h14, h15]) rfl ?_
     exact ⟨rfl, below_row HBB.out (Nat.le_refl _) _⟩
   | some q =>
     go_enter Tryz.func58, Tryz.ntmps58
     go_wp2_with (first
       | (go_at_call 86; (refine LN.out.mono ?_); rintro e w4 ⟨rfl, hb4⟩; obtain ⟨hbb, hz⟩ := HR0.out w4 hb4; have HBB := Lib.hid hbb; have HZ := Lib.hid hz; clear hb4 hbb hz)
       | (refine wpList_store_quad rfl (.tmp 2) (.tmp 12) rfl _ rfl q rfl ?T1 ?o1 ?hs1 ?hg1 ?_; (case hg1 => exact HZ.out); (case hs1 => rfl)))
     obtain ⟨h0, h1, h2, h3, h4, h5, h6, h7, h8, h9, h10, h11, h12, h13, h14, h15⟩ := cells16 (row16 q HZ.out)
     simp only [Nat.zero_add] at h1 h2 h3 h4 h5 h6 h7 h8 h9 h10 h11 h12 h13 h14 h15
     refine bodyPost_ret (v := .tuple #[qv q, .bool true, .nilIface]) (by simp [results, Tryz.results58, go_sem, h0, h1, h2, h3, h4, h5, h6, h7, h8, h9, h10, h11, h12, h13, h14, h15]) rfl ?_
     exact ⟨rfl, below_row HBB.out (Nat.le_refl _) _⟩
 · go_enter Tryz.func58, Tryz.ntmps58
   go_wp2_with (first
     | (go_at_call 86; (refine LN.out.mono ?_); rintro e w4 ⟨hx, hb4⟩; obtain ⟨eb, rfl, he⟩ := hx; have HER := Lib.hid he; clear he; obtain ⟨hbb, hz⟩ := HR0.out w4 hb4; have HBB := Lib.hid hbb; have HZ := Lib.hid hz; clear hb4 hbb hz)
     | (refine wpList_store_quad rfl (.tmp 2) (.tmp 12) rfl _ rfl noQuad rfl ?T1 ?o1 ?hs1 ?hg1 ?_; (case hg1 => exact HZ.out); (case hs1 => rfl)))
   obtain ⟨h0, h1, h2, h3, h4, h5, h6, h7, h8, h9, h10, h11, h12, h13, h14, h15⟩ := cells16 (row16 noQuad HZ.out)
   simp only [Nat.zero_add] at h1 h2 h3 h4 h5 h6 h7 h8 h9 h10 h11 h12 h13 h14 h15
   refine bodyPost_ret (v := .tuple #[qv noQuad, .bool false, .iface 77 (.pointer (some ⟨eb, 0, none⟩))]) (by simp [results, Tryz.results58, go_sem, h0, h1, h2, h3, h4, h5, h6, h7, h8, h9, h10, h11, h12, h13, h14, h15]) rfl ?_
   exact ⟨⟨eb, rfl, err_row HZ.out HER.out _⟩, below_row HBB.out (Nat.le_refl _) _⟩
end Go.Proofs.YtmnigckpejcaeaaGreatDoor
