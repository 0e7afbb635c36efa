/-
  term.Valid, term.Rises: contracts. By an AI agent.
-/
import Derived.Test.YtmnigckpejcaeaaGreatDoorZQuadW
import Derived.IntWalk
import Derived.Test.YtmnigckpejcaeaaGreatDoorZNqText
import Derived.Test.YtmnigckpejcaeaaGreatDoorZEsc0
import Derived.Test.YtmnigckpejcaeaaGreatDoorZBuilder
import Derived.Test.YtmnigckpejcaeaaGreatDoorZApp
import Derived.Test.YtmnigckpejcaeaaGreatDoorShelf
namespace Go.Proofs.YtmnigckpejcaeaaGreatDoor
open Go.RowKit
set_option maxRecDepth 100000
theorem compareQuads_c (a b : QuadL) (w : World) : Calls Tryz.prog 61 #[.agg #[.int .i64 a.s.kind, .string (B a.s.text), .string (B a.s.type), .string (B a.s.lang), .int .i64 a.p.kind, .string (B a.p.text), .string (B a.p.type), .string (B a.p.lang), .int .i64 a.o.kind, .string (B a.o.text), .string (B a.o.type), .string (B a.o.lang), .int .i64 a.g.kind, .string (B a.g.text), .string (B a.g.type), .string (B a.g.lang)], .agg #[.int .i64 b.s.kind, .string (B b.s.text), .string (B b.s.type), .string (B b.s.lang), .int .i64 b.p.kind, .string (B b.p.text), .string (B b.p.type), .string (B b.p.lang), .int .i64 b.o.kind, .string (B b.o.text), .string (B b.o.type), .string (B b.o.lang), .int .i64 b.g.kind, .string (B b.g.text), .string (B b.g.type), .string (B b.g.lang)]] w fun e w' => e = .returned (.int .i64 (cmpQ a b)) /\ Below w.heap.size w w' := compareQuads_l a b w
set_option maxHeartbeats 1000000 in
theorem valid_l (l : List QuadL) (a : Option Addr) (c : Nat) (w : World) (hT : TabAt w) (hM : MaxAt w) (hS : ∀ q ∈ l, Short q) (hl : l.length <= 1048576) (hQ : QAt w a l) :
   Calls Tryz.prog 39 #[.slice a l.length c] w fun e w' => e = .returned (.tuple #[.int .i64 (validF l).1, .int .i64 (validF l).2]) /\ Below w.heap.size w w' := by
 have HV : Hid (validF l = if (badF l 0).2 ≠ 0 then badF l 0 else fallF l 1) := Lib.hid (by unfold validF; rw [if_neg (by omega)])
 have CQ := Lib.hid (fun (q : QuadL) (hq : Short q) (u : World) (h : Below w.heap.size w u) => checkQuad_l q u (hT.below h) (hM.below h) hq)
 have HS := Lib.hid hS
 have HQ := Lib.hid hQ
 clear hT hM hS hQ
 have q1 : decide ((1048576 : Int) < (l.length : Int)) = false := decide_eq_false (by omega)
 go_enter Tryz.func39, Tryz.ntmps39
 go_wp2_with fail
 go_loopw [13] (fun i wr => ∃ k : Nat, i = .int .i64 k /\ k <= l.length /\ Below w.heap.size w wr /\ Hid (validF l = if (badF (l.drop k) k).2 ≠ 0 then badF (l.drop k) k else fallF l 1)) (fun i _ => l.length - (intOf i).toNat)
 case atStart => exact ⟨0, rfl, Nat.zero_le _, Below.refl _ _, HV⟩
 case round =>
   obtain ⟨k, rfl, hk, hb, HK⟩ := hrel
   by_cases hlt : k < l.length
   · obtain ⟨b, o, rfl⟩ := HQ.out.place (by omega)
     obtain ⟨x, hx⟩ : ∃ x, l[k] = x := ⟨_, rfl⟩
     have CX := CQ.out x (HS.out x (hx ▸ List.getElem_mem ..))
     have hr := (HQ.out.below hb).get hlt
     have HK2 : Hid (validF l = if quadN x ≠ 0 then (k, quadN x) else if (badF (l.drop (k + 1)) (k + 1)).2 ≠ 0 then badF (l.drop (k + 1)) (k + 1) else fallF l 1) := Lib.hid (by
       rw [HK.out, badF_step hlt, hx]
       by_cases e : quadN x = 0
       · rw [if_neg (c := quadN x ≠ 0) (fun h => h e), if_neg (c := quadN x ≠ 0) (fun h => h e)]
       · rw [if_pos (c := quadN x ≠ 0) e, if_pos (c := quadN x ≠ 0) e, if_pos e])
     rw [hx] at hr
     obtain ⟨n, hn⟩ : ∃ n, quadN x = n := ⟨_, rfl⟩
     rw [hn] at CX HK2
     have CQ := Lib.hid CX
     obtain ⟨c0, c1, c2, c3, c4, c5, c6, c7, c8, c9, c10, c11, c12, c13, c14, c15⟩ := cells16 hr
     have BB := Lib.hid hb
     clear hb hr hn hx CX HK HS
     by_cases n0 : n = 0
     · as_aux_lemma =>
       have q9 : (n != 0) = false := by rw [n0]; rfl
       have HN : Hid (validF l = if (badF (l.drop (k + 1)) (k + 1)).2 ≠ 0 then badF (l.drop (k + 1)) (k + 1) else fallF l 1) := Lib.hid (by rw [HK2.out, if_neg (fun h => h n0)])
       clear n0 HK2
       go_wp2_with (go_at_call 44; (with_reducible refine (CQ.out _ (BB.out.alloc BB.out.size _)).mono ?_); rintro e w3 ⟨rfl, hb3⟩; have HB3 := Lib.hid ((BB.out.alloc BB.out.size _).trans (hb3.mono (BB.out.alloc BB.out.size _).size)); clear hb3)
       go_roundw
       case rel => exact ⟨k + 1, by go_num, hlt, HB3.out, HN⟩
       case measure => simp [intOf]; omega
     · as_aux_lemma =>
       have q9 : (n != 0) = true := by rw [bne, kne n0]; rfl
       have HE : Hid (validF l = (k, n)) := Lib.hid (by rw [HK2.out, if_pos n0])
       clear n0 HK2
       go_wp2_with (go_at_call 44; (with_reducible refine (CQ.out _ (BB.out.alloc BB.out.size _)).mono ?_); rintro e w3 ⟨rfl, hb3⟩; have HB3 := Lib.hid ((BB.out.alloc BB.out.size _).trans (hb3.mono (BB.out.alloc BB.out.size _).size)); clear hb3)
       go_ret2
       exact ⟨by rw [HE.out]; rfl, HB3.out⟩
   · obtain rfl : k = l.length := by omega
     have HF : Hid (validF l = fallF (l.drop 0) 1) := Lib.hid (by rw [HK.out, List.drop_length]; rfl)
     have BB := Lib.hid hb
     have CM := Lib.hid (fun (x y : QuadL) (u : World) => compareQuads_c x y u)
     clear hb HK HV HS CQ
     go_wp2_with fail
     go_loopw [7] (fun i wr => ∃ m : Nat, i = .int .i64 (m + 1) /\ m <= l.length /\ Below w.heap.size w wr /\ Hid (validF l = fallF (l.drop m) (m + 1))) (fun i _ => l.length + 1 - (intOf i).toNat)
     case atStart => exact ⟨0, rfl, Nat.zero_le _, BB.out, HF⟩
     case round =>
       obtain ⟨m, rfl, hm, hb, HK⟩ := hrel
       clear BB HF
       by_cases hlt2 : m + 1 < l.length
       · obtain ⟨b, o, rfl⟩ := HQ.out.place (by omega)
         have hQ2 := HQ.out.below hb
         have r1 := hQ2.get (k := m) (by omega)
         have r2 := hQ2.get (k := m + 1) hlt2
         obtain ⟨x, hx⟩ : ∃ x, l[m] = x := ⟨_, rfl⟩
         obtain ⟨y, hy⟩ : ∃ y, l[m + 1] = y := ⟨_, rfl⟩
         have HS2 := fallF_step (l := l) (k := m + 1) (by omega) hlt2
         simp only [Nat.add_sub_cancel] at HS2
         rw [hx, hy] at HS2
         have HK2 := Lib.hid (HK.out.trans HS2)
         rw [hx] at r1
         rw [hy] at r2
         obtain ⟨c0, c1, c2, c3, c4, c5, c6, c7, c8, c9, c10, c11, c12, c13, c14, c15⟩ := cells16 r1
         obtain ⟨d0, d1, d2, d3, d4, d5, d6, d7, d8, d9, d10, d11, d12, d13, d14, d15⟩ := cells16 r2
         have BB := Lib.hid hb
         clear hb hQ2 r1 r2 hx hy HS2 HK
         obtain ⟨n, hn⟩ : ∃ n, cmpQ x y = n := ⟨_, rfl⟩
         have CX := CM.out x y
         rw [hn] at CX HK2
         have CM := Lib.hid CX
         clear CX hn
         by_cases n0 : 0 <= n
         · as_aux_lemma =>
           have q9 : decide (0 <= n) = true := decide_eq_true n0
           have HE : Hid (validF l = (m + 1, 6)) := Lib.hid (by rw [HK2.out, if_pos n0])
           clear n0 HK2
           go_wp2_with fail
           have hm2 : m < l.length := by omega
           have hm3 : (0 : Int) <= (m : Int) + 1 := by omega
           have W1 : IntKind.i64.wrap (m : Int) = (m : Int) := IntWalk.i64_in _ (by omega)
           refine region_still 9 (by kernel_rfl) (by kernel_rfl) ?_
           simp only [List.take_succ_cons, List.take_zero, List.drop_succ_cons, List.drop_zero]
           repeat still_step
           refine wpStill_nil ?_
           clear W1
           go_wp2_with (go_at_call 61; (with_reducible refine (CM.out _).mono ?_); rintro e w3 ⟨rfl, hb3⟩; have HB3 := Lib.hid (BB.out.trans (((below_drewN _ 1).trans hb3).mono BB.out.size)); clear hb3)
           go_ret2
           exact ⟨by rw [HE.out]; rfl, HB3.out⟩
         · as_aux_lemma =>
           have q9 : decide (0 <= n) = false := decide_eq_false n0
           have HN : Hid (validF l = fallF (l.drop (m + 1)) (m + 1 + 1)) := Lib.hid (by rw [HK2.out, if_neg n0])
           clear n0 HK2
           go_wp2_with fail
           have hm2 : m < l.length := by omega
           have hm3 : (0 : Int) <= (m : Int) + 1 := by omega
           have W1 : IntKind.i64.wrap (m : Int) = (m : Int) := IntWalk.i64_in _ (by omega)
           refine region_still 9 (by kernel_rfl) (by kernel_rfl) ?_
           simp only [List.take_succ_cons, List.take_zero, List.drop_succ_cons, List.drop_zero]
           repeat still_step
           refine wpStill_nil ?_
           clear W1
           go_wp2_with (go_at_call 61; (with_reducible refine (CM.out _).mono ?_); rintro e w3 ⟨rfl, hb3⟩; have HB3 := Lib.hid (BB.out.trans (((below_drewN _ 1).trans hb3).mono BB.out.size)); clear hb3)
           go_roundw
           case rel => exact ⟨m + 1, by go_num, by omega, HB3.out, HN⟩
           case measure => simp [intOf]; omega
       · as_aux_lemma =>
         have HE : Hid (validF l = (0, 0)) := Lib.hid (by
           rw [HK.out]
           exact fallF_end (k := m + 1) (by omega))
         have q8 : decide ((m : Int) + 1 < (l.length : Int)) = false := decide_eq_false (by omega)
         have BB := Lib.hid hb
         clear hb HK CM
         go_wp2_with fail
         go_ret2
         exact ⟨by rw [HE.out]; rfl, BB.out⟩
end Go.Proofs.YtmnigckpejcaeaaGreatDoor
namespace Go.Proofs.YtmnigckpejcaeaaGreatDoor
open Go.RowKit
set_option maxRecDepth 100000
def PrintPost (w w' : World) (e : Ending) (r : List UInt8 × Int) : Prop := ∃ v, e = .returned (.tuple #[v, .int .i64 r.2]) /\ BOwn w.heap.size v r.1 w' /\ Below w.heap.size w w'
theorem clone_l (base : Nat) (v : Value) (l : List UInt8) (w : World) (h : BOwn base v l w) (hl : l.length <= 140737488355328) :
   Calls Tryz.prog 25 #[v] w fun e w' => ∃ v', e = .returned v' /\ BOwn w.heap.size v' l w' /\ Below w.heap.size w w' := by
 obtain ⟨a, c, rfl⟩ := h.slice
 cases a with
 | none =>
   have h0 : l = [] := by
     cases l with
     | nil => rfl
     | cons x r =>
       obtain ⟨b, o, he, _⟩ := h.at 0 (by simp)
       cases he
   subst h0
   refine (Tryz.bytes_Clone_nil 0 c w).mono ?_
   rintro e w' ⟨rfl, rfl⟩
   exact ⟨_, rfl, BOwn.nil _ _, Below.refl _ _⟩
 | some ad =>
   refine (Tryz.bytes_Clone_at ad l.length c (l.map fun x => (x.toNat : Int)) w (by simp) hl ?_).mono ?_
   · intro i hi
     obtain ⟨b, o, he, hc⟩ := h.at i (by simpa using hi)
     cases he
     rw [addO, hc]
     simp [U8, List.getD, hi]
   · rintro e w' ⟨v', rfl, ho, _, hb⟩
     refine ⟨v', rfl, ?_, hb⟩
     rw [List.map_map] at ho
     exact ho
theorem bown_lower {base base' : Nat} {v : Value} {l : List UInt8} {w : World} (h : BOwn base' v l w) (hb : base <= base') : BOwn base v l w := by
 refine ⟨h.1, ?_⟩
 rcases h.2 with h2 | ⟨g, cap, cur, h1, h2, h3, h4⟩
 · exact .inl h2
 · exact .inr ⟨g, cap, cur, h1, Nat.le_trans hb h2, h3, h4⟩
end Go.Proofs.YtmnigckpejcaeaaGreatDoor
