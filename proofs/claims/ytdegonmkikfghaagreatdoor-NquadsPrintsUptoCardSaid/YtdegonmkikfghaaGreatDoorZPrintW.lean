/-
  nquads.Print: a contract. By an AI agent.
-/
import Derived.Test.YtdegonmkikfghaaGreatDoorZNqText
import Derived.Test.YtdegonmkikfghaaGreatDoorZEsc0
import Derived.Test.YtdegonmkikfghaaGreatDoorZBOwn
import Derived.Test.YtdegonmkikfghaaGreatDoorZValid
import Derived.Test.YtdegonmkikfghaaGreatDoorZApp
import Derived.Test.YtdegonmkikfghaaGreatDoorShelf
import Derived.Test.YtdegonmkikfghaaGreatDoorZRefText
import Derived.Test.YtdegonmkikfghaaGreatDoorZRefQuadW
namespace Go.Proofs.YtdegonmkikfghaaGreatDoor
open Go.RowKit
set_option maxRecDepth 100000

/-- what Print hands back: new memory -/
def PrintPost (w w' : World) (e : Ending) (r : List UInt8 × Int) : Prop := ∃ v, e = .returned (.tuple #[v, .int .i64 r.2]) ∧ BOwn w.heap.size v r.1 w' ∧ Below w.heap.size w w'
theorem At_one10 (w : World) (t : TypeId) : At (w.alloc (.cells #[.int .u8 10] t)) (some ⟨w.heap.size, 0, none⟩) (([10] : List UInt8).map U8) := at_one w (.int .u8 10) t
theorem clone_l (base : Nat) (v : Value) (l : List UInt8) (w : World) (h : BOwn base v l w) (hl : l.length ≤ 140737488355328) :
    Calls Tryz.prog 36 #[v] w fun e w' => ∃ v', e = .returned v' ∧ BOwn w.heap.size v' l w' ∧ Below w.heap.size w w' := by
  obtain ⟨a, c, rfl⟩ := h.slice
  cases a with
  | none =>
    have h0 : l = [] := by
      cases l with
      | nil => rfl
      | cons x r =>
        obtain ⟨b, o, he, _⟩ := h.at 0 (by simp)
        cases he
    subst h0
    refine (Tryz.bytes_Clone_nil 0 c w).mono ?_
    rintro e w' ⟨rfl, rfl⟩
    exact ⟨_, rfl, BOwn.nil _ _, Below.refl _ _⟩
  | some ad =>
    refine (Tryz.bytes_Clone_at ad l.length c (l.map fun x => (x.toNat : Int)) w (by simp) hl ?_).mono ?_
    · intro i hi
      obtain ⟨b, o, he, hc⟩ := h.at i (by simpa using hi)
      cases he
      rw [addO, hc]
      simp [U8, List.getD, hi]
    · rintro e w' ⟨v', rfl, ho, _, hb⟩
      refine ⟨v', rfl, ?_, hb⟩
      rw [List.map_map] at ho
      exact ho
theorem bown_lower {base base' : Nat} {v : Value} {l : List UInt8} {w : World} (h : BOwn base' v l w) (hb : base ≤ base') : BOwn base v l w := by
  refine ⟨h.1, ?_⟩
  rcases h.2 with h2 | ⟨g, cap, cur, h1, h2, h3, h4⟩
  · exact .inl h2
  · exact .inr ⟨g, cap, cur, h1, Nat.le_trans hb h2, h3, h4⟩
set_option maxHeartbeats 6400000 in
theorem nqPrint_l (l : List QuadL) (a : Option Addr) (c : Nat) (most : Int) (w : World) (hT : TabAt w) (hM : MaxAt w) (hS : ∀ q ∈ l, Short q) (hl : l.length ≤ 1048576) (hQ : QAt w a l) :
    Calls Tryz.prog 13 #[.slice a l.length c, .int .i64 most] w fun e w' => PrintPost w w' e (printN l most) := by
  have VA := Lib.hid (fun (u : World) (h : Below w.heap.size w u) => valid_l l a c u (hT.below h) (hM.below h) hS hl (hQ.below h))
  have BW : Hid (Below w.heap.size w w) := Lib.hid (Below.refl _ _)
  obtain ⟨vi, vn, hv⟩ : ∃ vi vn, validF l = (vi, vn) := ⟨_, _, rfl⟩
  rw [hv] at VA
  simp only at VA
  by_cases hn : vn = 0
  · have e0 : (vn != 0) = false := by rw [hn]; rfl
    have hok : (validF l).2 = 0 := by rw [hv]; exact hn
    have HOK := Lib.hid hok
    have hquad := ((validF_ok l).1 hok).2.1
    have TX := Lib.hid (fun (q : QuadL) (hq : q ∈ l) (u : World) (h : Below w.heap.size w u) => nqText_l q u (hT.below h) (hM.below h) (hS q hq) (hquad q hq))
    have hle : ∀ q ∈ l, (lineF q).length ≤ 54526021 := fun q hq => lineF_le (hS q hq)
    have hbig := linesF_big hl hle
    have HLE := Lib.hid hle
    have HQ := Lib.hid hQ
    have CL := Lib.hid clone_l
    clear hT hM hS hv hok hquad hle hQ
    go_enter Tryz.func13, Tryz.ntmps13
    go_wp2_with (go_at_call 30; (with_reducible refine (VA.out _ BW.out).mono ?_); rintro e w1 ⟨rfl, hb1⟩; have HB1 := Lib.hid hb1; clear hb1)
    go_loopw [8, 21] (fun v i wr => ∃ k : Nat, i = .int .i64 k ∧ k ≤ l.length ∧ Hid (BOwn w.heap.size v (linesF (l.take k)) wr) ∧ Hid (Below w.heap.size w wr) ∧ Hid (k = 0 ∨ ((linesF (l.take k)).length : Int) ≤ most)) (fun _ i _ => l.length - (intOf i).toNat)
    case atStart => exact ⟨0, rfl, Nat.zero_le _, Lib.hid (BOwn.nil _ _), HB1, Lib.hid (.inl rfl)⟩
    case round =>
      obtain ⟨k, rfl, hk, HO, HB, HM⟩ := hrel
      clear HB1 VA
      by_cases hlt : k < l.length
      · obtain ⟨b, o, rfl⟩ := HQ.out.place (by omega)
        have hmem := List.getElem_mem hlt
        have hst := linesF_take l k hlt
        have hpt := linesF_part l (k + 1)
        obtain ⟨x, hx⟩ : ∃ x, l[k] = x := ⟨_, rfl⟩
        have hr := (HQ.out.below HB.out).get hlt
        rw [hx] at hr hst hmem
        obtain ⟨c0, c1, c2, c3, c4, c5, c6, c7, c8, c9, c10, c11, c12, c13, c14, c15⟩ := cells16 hr
        have TX2 := Lib.hid (TX.out x hmem)
        rw [hst] at hpt
        have hp2 := hpt
        simp only [List.length_append, List.length_singleton] at hp2
        have HST := Lib.hid hst
        have HS2 := HB.out.size
        obtain ⟨acc, hacc⟩ : ∃ acc, linesF (l.take k) = acc := ⟨_, rfl⟩
        rw [hacc] at hp2 hpt HO HST
        have HOa := Lib.hid (HO.out.below ((Below.refl _ _).alloc (Nat.le_refl _) (.cells #[.int .i64 x.s.kind, .string (B x.s.text), .string (B x.s.type), .string (B x.s.lang), .int .i64 x.p.kind, .string (B x.p.text), .string (B x.p.type), .string (B x.p.lang), .int .i64 x.o.kind, .string (B x.o.text), .string (B x.o.type), .string (B x.o.lang), .int .i64 x.g.kind, .string (B x.g.text), .string (B x.g.type), .string (B x.g.lang)] 36)))
        have HBa := Lib.hid (HB.out.alloc HB.out.size (.cells #[.int .i64 x.s.kind, .string (B x.s.text), .string (B x.s.type), .string (B x.s.lang), .int .i64 x.p.kind, .string (B x.p.text), .string (B x.p.type), .string (B x.p.lang), .int .i64 x.o.kind, .string (B x.o.text), .string (B x.o.type), .string (B x.o.lang), .int .i64 x.g.kind, .string (B x.g.text), .string (B x.g.type), .string (B x.g.lang)] 36))
        have hsa : (wr.alloc (.cells #[.int .i64 x.s.kind, .string (B x.s.text), .string (B x.s.type), .string (B x.s.lang), .int .i64 x.p.kind, .string (B x.p.text), .string (B x.p.type), .string (B x.p.lang), .int .i64 x.o.kind, .string (B x.o.text), .string (B x.o.type), .string (B x.o.lang), .int .i64 x.g.kind, .string (B x.g.text), .string (B x.g.type), .string (B x.g.lang)] 36)).heap.size = wr.heap.size + 1 := by simp
        clear hr hx hmem TX hacc HO HB HM
        have hl3 : (((acc ++ lineF x) ++ [10]).length : Int) = (acc.length : Int) + (((lineF x).length : Int) + 1) := by rw [List.length_append, List.length_append, List.length_singleton]; omega
        have HLN : Hid (((acc ++ lineF x) ++ [10]).length = acc.length + ((lineF x).length + 1)) := Lib.hid (by rw [List.length_append, List.length_append, List.length_singleton]; omega)
        by_cases hm : most < (acc.length : Int) + (((lineF x).length : Int) + 1)
        · have q34 : decide (most < (acc.length : Int) + (((lineF x).length : Int) + 1)) = true := decide_eq_true hm
          have HE : Hid (printN l most = ([], 1)) := Lib.hid (printN_big HOK.out (k + 1) (by rw [HST.out, hl3]; exact hm))
          clear hm hl3
          go_wp2_with (first
            | (go_at_call 35; (with_reducible refine (TX2.out _ HBa.out).mono ?_); rintro e w2 ⟨rfl, hb2⟩; have HO2 := Lib.hid (HOa.out.below hb2); have HB2 := Lib.hid (HBa.out.trans (hb2.mono HBa.out.size)); have hs2 := hb2.size; clear hb2)
            | (at_builtin; refine wpList_app_str rfl (.tmp 25) (.tmp 27) rfl w.heap.size _ acc (lineF x) rfl HO2.out rfl (by omega) (by omega) ?_; intro v3 w3 hO3 hg3; have HO3 := Lib.hid (hO3.below ((Below.refl _ _).alloc (Nat.le_refl _) (.cells #[.int .u8 10] 5))); have HB3 := Lib.hid ((below_own HB2.out HO2.out hg3 (Nat.le_refl _)).alloc (below_own HB2.out HO2.out hg3 (Nat.le_refl _)).size (.cells #[.int .u8 10] 5)); have HA3 := Lib.hid (At_one10 w3 5); have hs3 := hg3.size; have hz3 : (w3.alloc (.cells #[.int .u8 10] 5)).heap.size = w3.heap.size + 1 := (by simp); clear hO3 hg3)
            | (at_builtin; refine wpList_app_bytes rfl (.tmp 28) (.tmp 29) rfl w.heap.size _ (acc ++ lineF x) [10] rfl HO3.out _ _ _ rfl rfl HA3.out (by rw [List.length_append, List.length_singleton]; omega) (by omega) ?_; intro v4 w4 hO4 hg4; have HO4 := Lib.hid hO4; have HB4 := Lib.hid (below_own HB3.out HO3.out hg4 (Nat.le_refl _)); obtain ⟨a4, n4, rfl⟩ := hO4.slice; clear hO4 hg4))
          go_ret2
          exact ⟨_, by rw [HE.out]; rfl, by rw [HE.out]; exact BOwn.nil _ _, HB4.out⟩
        · have q34 : decide (most < (acc.length : Int) + (((lineF x).length : Int) + 1)) = false := decide_eq_false hm
          have HM2 : Hid (k + 1 = 0 ∨ ((linesF (l.take (k + 1))).length : Int) ≤ most) := Lib.hid (.inr (by rw [HST.out, hl3]; omega))
          clear hm hl3
          go_wp2_with (first
            | (go_at_call 35; (with_reducible refine (TX2.out _ HBa.out).mono ?_); rintro e w2 ⟨rfl, hb2⟩; have HO2 := Lib.hid (HOa.out.below hb2); have HB2 := Lib.hid (HBa.out.trans (hb2.mono HBa.out.size)); have hs2 := hb2.size; clear hb2)
            | (at_builtin; refine wpList_app_str rfl (.tmp 25) (.tmp 27) rfl w.heap.size _ acc (lineF x) rfl HO2.out rfl (by omega) (by omega) ?_; intro v3 w3 hO3 hg3; have HO3 := Lib.hid (hO3.below ((Below.refl _ _).alloc (Nat.le_refl _) (.cells #[.int .u8 10] 5))); have HB3 := Lib.hid ((below_own HB2.out HO2.out hg3 (Nat.le_refl _)).alloc (below_own HB2.out HO2.out hg3 (Nat.le_refl _)).size (.cells #[.int .u8 10] 5)); have HA3 := Lib.hid (At_one10 w3 5); have hs3 := hg3.size; have hz3 : (w3.alloc (.cells #[.int .u8 10] 5)).heap.size = w3.heap.size + 1 := (by simp); clear hO3 hg3)
            | (at_builtin; refine wpList_app_bytes rfl (.tmp 28) (.tmp 29) rfl w.heap.size _ (acc ++ lineF x) [10] rfl HO3.out _ _ _ rfl rfl HA3.out (by rw [List.length_append, List.length_singleton]; omega) (by omega) ?_; intro v4 w4 hO4 hg4; have HO4 := Lib.hid hO4; have HB4 := Lib.hid (below_own HB3.out HO3.out hg4 (Nat.le_refl _)); obtain ⟨a4, n4, rfl⟩ := hO4.slice; clear hO4 hg4))
          go_roundw
          case rel => exact ⟨k + 1, by go_num, by omega, Lib.hid (by rw [HST.out, ← HLN.out]; exact HO4.out), HB4, HM2⟩
          case measure => simp [intOf]; omega
      · have hkl : k = l.length := by omega
        have HTK : Hid (linesF (l.take k) = linesF l) := Lib.hid (by rw [hkl, List.take_length])
        by_cases hm : most < 0
        · have q37 : decide (most < 0) = true := decide_eq_true hm
          have HE : Hid (printN l most = ([], 1)) := Lib.hid (printN_big HOK.out k (by
            rcases HM.out with h | h
            · rw [h]; exact hm
            · omega))
          clear hkl hm
          go_wp2_with fail
          go_ret2
          exact ⟨_, by rw [HE.out]; rfl, by rw [HE.out]; exact BOwn.nil _ _, HB.out⟩
        · have q37 : decide (most < 0) = false := decide_eq_false hm
          have HE : Hid (printN l most = (linesF l, 0)) := Lib.hid (printN_ok HOK.out (by
            rcases HM.out with h | h
            · rw [← HTK.out, h]; simp [linesF]; omega
            · rw [← HTK.out]; exact h))
          have HO2 := HO.out
          rw [HTK.out] at HO2
          have HO3 := Lib.hid HO2
          clear hkl hm HO HO2
          go_wp2_with (go_at_call 36; (with_reducible refine (CL.out _ _ _ _ HO3.out (by omega)).mono ?_); rintro e w5 ⟨v5, rfl, ho5, hb5⟩; have HO5 := Lib.hid ho5; have HB5 := Lib.hid (HB.out.trans (hb5.mono HB.out.size)); have hs5 := HB.out.size; clear ho5 hb5)
          go_ret2
          exact ⟨_, by rw [HE.out]; rfl, by rw [HE.out]; exact bown_lower HO5.out hs5, HB5.out⟩
  · have e0 : (vn != 0) = true := bne_iff_ne.2 hn
    have HE : Hid (printN l most = ([], vn)) := Lib.hid (by rw [printN_bad (by rw [hv]; exact hn), hv])
    clear hT hM hS hv hQ hn
    go_enter Tryz.func13, Tryz.ntmps13
    go_wp2_with (go_at_call 30; (with_reducible refine (VA.out _ BW.out).mono ?_); rintro e w1 ⟨rfl, hb1⟩; have HB1 := Lib.hid hb1; clear hb1)
    go_ret2
    exact ⟨_, by rw [HE.out]; rfl, by rw [HE.out]; exact BOwn.nil _ _, HB1.out⟩
end Go.Proofs.YtdegonmkikfghaaGreatDoor

/-
  tesseraref09.Print: a contract. By an AI agent.
-/
namespace Go.Proofs.YtdegonmkikfghaaGreatDoor
open Go.RowKit
set_option maxRecDepth 100000

theorem ref09Text_ok (q : QuadL) (w : World) (hS : Short q) (hq : quadN q = 0) : Calls Tryz.prog 19 #[qv q] w fun e w' => e = .returned (.tuple #[.string (B (lineF q)), .int .i64 0]) ∧ Below w.heap.size w w' :=
  (ref09Text_l q w hS).mono fun e w' h => by
    refine ⟨?_, h.2⟩
    rw [h.1]
    unfold lineN
    rw [if_neg (by rw [hq]; simp)]
set_option maxHeartbeats 6400000 in
theorem refPrint_l (l : List QuadL) (v : Value) (most : Int) (w : World) (hV : QView w v l) (hS : ∀ q ∈ l, Short q) (hl : l.length ≤ 1048576) :
    Calls Tryz.prog 14 #[v, .int .i64 most] w fun e w' => e = .returned (.tuple #[.string (B (printN l most).1), .int .i64 (printN l most).2]) ∧ Below w.heap.size w w' := by
  have VA := Lib.hid (refValid_l l v w hV hS hl)
  obtain ⟨a, c, rfl, _, hQ⟩ := hV
  have BW : Hid (Below w.heap.size w w) := Lib.hid (Below.refl _ _)
  obtain ⟨vi, vn, hv⟩ : ∃ vi vn, validF l = (vi, vn) := ⟨_, _, rfl⟩
  rw [hv] at VA
  simp only at VA
  by_cases hn : vn = 0
  · have e0 : (vn != 0) = false := by rw [hn]; rfl
    have hok : (validF l).2 = 0 := by rw [hv]; exact hn
    have HOK := Lib.hid hok
    have hquad := ((validF_ok l).1 hok).2.1
    have TX := Lib.hid (fun (q : QuadL) (hq : q ∈ l) (u : World) => ref09Text_ok q u (hS q hq) (hquad q hq))
    have hle : ∀ q ∈ l, (lineF q).length ≤ 54526021 := fun q hq => lineF_le (hS q hq)
    have hbig := linesF_big hl hle
    have HQ := Lib.hid hQ
    clear hS hv hok hquad hle hQ
    go_enter Tryz.func14, Tryz.ntmps14
    go_wp2_with (go_at_call 37; (with_reducible refine VA.out.mono ?_); rintro e w1 ⟨rfl, hb1⟩; have HB1 := Lib.hid hb1; clear hb1)
    go_loopw [8, 9] (fun v i wr => ∃ k : Nat, i = .int .i64 k ∧ k ≤ l.length ∧ Hid (BOwn w.heap.size v (linesF (l.take k)) wr) ∧ Hid (Below w.heap.size w wr)) (fun _ i _ => l.length - (intOf i).toNat)
    case atStart => exact ⟨0, rfl, Nat.zero_le _, Lib.hid (BOwn.nil _ _), HB1⟩
    case round =>
      obtain ⟨k, rfl, hk, HO, HB⟩ := hrel
      clear HB1 VA
      by_cases hlt : k < l.length
      · obtain ⟨b, o, rfl⟩ := HQ.out.place (by omega)
        have hmem := List.getElem_mem hlt
        have hst := linesF_take l k hlt
        have hpt := linesF_part l (k + 1)
        obtain ⟨x, hx⟩ : ∃ x, l[k] = x := ⟨_, rfl⟩
        have hr := (HQ.out.below HB.out).get hlt
        rw [hx] at hr hst hmem
        obtain ⟨c0, c1, c2, c3, c4, c5, c6, c7, c8, c9, c10, c11, c12, c13, c14, c15⟩ := cells16 hr
        have TX2 := Lib.hid (TX.out x hmem)
        rw [hst] at hpt
        have hp2 := hpt
        simp only [List.length_append, List.length_singleton] at hp2
        have HST := Lib.hid hst
        have HS2 := HB.out.size
        obtain ⟨acc, hacc⟩ : ∃ acc, linesF (l.take k) = acc := ⟨_, rfl⟩
        rw [hacc] at hp2 hpt HO HST
        have HLN : Hid (((acc ++ lineF x) ++ [10]).length = acc.length + ((lineF x).length + 1)) := Lib.hid (by rw [List.length_append, List.length_append, List.length_singleton]; omega)
        clear hr hx hmem TX hacc
        go_wp2_with (first
          | (go_at_call 19; (with_reducible refine (TX2.out _).mono ?_); rintro e w2 ⟨rfl, hb2⟩; have HO2 := Lib.hid (HO.out.below hb2); have HB2 := Lib.hid (HB.out.trans (hb2.mono HB.out.size)); have hs2 := hb2.size; clear hb2)
          | (at_builtin; refine wpList_app_str rfl (.tmp 34) (.tmp 35) rfl w.heap.size _ acc (lineF x) rfl HO2.out rfl (by omega) (by omega) ?_; intro v3 w3 hO3 hg3; have HO3 := Lib.hid (hO3.below ((Below.refl _ _).alloc (Nat.le_refl _) (.cells #[.int .u8 10] 5))); have HB3 := Lib.hid ((below_own HB2.out HO2.out hg3 (Nat.le_refl _)).alloc (below_own HB2.out HO2.out hg3 (Nat.le_refl _)).size (.cells #[.int .u8 10] 5)); have HA3 := Lib.hid (At_one10 w3 5); have hs3 := hg3.size; have hz3 : (w3.alloc (.cells #[.int .u8 10] 5)).heap.size = w3.heap.size + 1 := (by simp); clear hO3 hg3)
          | (at_builtin; refine wpList_app_bytes rfl (.tmp 37) (.tmp 38) rfl w.heap.size _ (acc ++ lineF x) [10] rfl HO3.out _ _ _ rfl rfl HA3.out (by rw [List.length_append, List.length_singleton]; omega) (by omega) ?_; intro v4 w4 hO4 hg4; have HO4 := Lib.hid hO4; have HB4 := Lib.hid (below_own HB3.out HO3.out hg4 (Nat.le_refl _)); obtain ⟨a4, n4, rfl⟩ := hO4.slice; clear hO4 hg4))
        go_roundw
        case rel => exact ⟨k + 1, by go_num, by omega, Lib.hid (by rw [HST.out, ← HLN.out]; exact HO4.out), HB4⟩
        case measure => simp [intOf]; omega
      · have hkl : k = l.length := by omega
        have HTK : Hid (linesF (l.take k) = linesF l) := Lib.hid (by rw [hkl, List.take_length])
        have HO2 := HO.out
        rw [HTK.out] at HO2
        have hback := HO2.back
        obtain ⟨a4, n4, rfl⟩ := HO2.slice
        have HO3 := Lib.hid HO2
        by_cases hm : most < ((linesF l).length : Int)
        · have q37 : decide (most < ((linesF l).length : Int)) = true := decide_eq_true hm
          have HE : Hid (printN l most = ([], 1)) := Lib.hid (printN_big HOK.out k (by rw [HTK.out]; exact hm))
          clear hkl hm HO HO2
          go_wp2_with fail
          go_ret2
          rw [HE.out]
          exact ⟨rfl, HB.out⟩
        · have q37 : decide (most < ((linesF l).length : Int)) = false := decide_eq_false hm
          have HE : Hid (printN l most = (linesF l, 0)) := Lib.hid (printN_ok HOK.out (by omega))
          clear hkl hm HO HO2
          go_wp2_with fail
          go_ret2
          rw [HE.out]
          exact ⟨rfl, HB.out⟩
  · have e0 : (vn != 0) = true := bne_iff_ne.2 hn
    have HE : Hid (printN l most = ([], vn)) := Lib.hid (by rw [printN_bad (by rw [hv]; exact hn), hv])
    clear hS hv hQ hn
    go_enter Tryz.func14, Tryz.ntmps14
    go_wp2_with (go_at_call 37; (with_reducible refine VA.out.mono ?_); rintro e w1 ⟨rfl, hb1⟩; have HB1 := Lib.hid hb1; clear hb1)
    go_ret2
    rw [HE.out]
    exact ⟨rfl, HB1.out⟩
end Go.Proofs.YtdegonmkikfghaaGreatDoor
