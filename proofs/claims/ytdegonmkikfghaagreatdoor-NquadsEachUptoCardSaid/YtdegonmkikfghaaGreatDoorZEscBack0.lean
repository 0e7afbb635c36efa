/-
  What is written with escapes is read back as it was: a plain law. No program in sight. By an AI agent.
-/
import Derived.Test.YtdegonmkikfghaaGreatDoorZRdW0
import Derived.Test.YtdegonmkikfghaaGreatDoorZLabel
import Derived.Test.YtdegonmkikfghaaGreatDoorZStill
namespace Go.Proofs.YtdegonmkikfghaaGreatDoor
open Lib (hid)
open Go.RowKit
set_option maxRecDepth 100000
theorem scal_cases {v : Int} (h : scal v = true) : 0 <= v /\ v <= 1114111 /\ (v < 55296 \/ 57343 < v) := by
 unfold scal at h
 simp at h
 exact ⟨h.1.1, h.1.2, h.2⟩
theorem byU_1 {v : Int} (h0 : 0 <= v) (h : v < 128) : byU v = [UInt8.ofNat v.toNat] := by
 unfold byU
 rw [bytesOf1 h]
 simp only [List.map_cons, List.map_nil]
 rw [Int.emod_eq_of_lt h0 (by omega)]
theorem ofNat_toNat {n : Nat} (h : n < 256) : (UInt8.ofNat n).toNat = n := by simp; omega
theorem next_byU {v : Int} (hs : scal v = true) (rest : List UInt8) : nextP (byU v ++ rest) = (v, (byU v).length) := by
 obtain ⟨h0, hm, hr⟩ := scal_cases hs
 by_cases c1 : v < 128
 ·rw [byU_1 h0 c1, List.cons_append, List.nil_append, nextP_1 (by rw [ofNat_toNat (by omega)]; omega), ofNat_toNat (by omega)]
  simp [Int.toNat_of_nonneg h0]
 by_cases c2 : v < 2048
 ·have e : byU v = [UInt8.ofNat (192 + v / 64).toNat, UInt8.ofNat (128 + v % 64).toNat] := by
   unfold byU
   rw [bytesOf2 (by omega) c2]
   simp only [List.map_cons, List.map_nil]
   rw [Int.emod_eq_of_lt (by omega) (by omega), Int.emod_eq_of_lt (by omega) (by omega)]
  rw [e, List.cons_append, List.cons_append, List.nil_append]
  have a1 : (UInt8.ofNat (192 + v / 64).toNat).toNat = (192 + v / 64).toNat := ofNat_toNat (by omega)
  have a2 : (UInt8.ofNat (128 + v % 64).toNat).toNat = (128 + v % 64).toNat := ofNat_toNat (by omega)
  have hl : leadN (192 + v / 64).toNat = 2 := by
   unfold leadN
   rw [if_neg (by omega), if_neg (by omega), if_pos (by omega)]
  have hv : leadV (192 + v / 64).toNat = ((192 + v / 64).toNat : Int) % 32 := by
   unfold leadV
   rw [if_neg (by omega), if_neg (by omega), if_pos (by omega)]
  rw [nextP, a1, if_neg (by rw [hl]; simp), hl, hv]
  simp only [Nat.add_one_sub_one, tailV, a2]
  rw [if_pos (by omega)]
  have ev : ((192 + v / 64).toNat : Int) % 32 * 64 + ((128 + v % 64).toNat : Int) % 64 = v := by omega
  rw [ev, finN, if_neg (by rw [hs]; simp [leastOf]; omega)]
  rfl
 by_cases c3 : v < 65536
 ·have e : byU v = [UInt8.ofNat (224 + v / 4096).toNat, UInt8.ofNat (128 + v / 64 % 64).toNat, UInt8.ofNat (128 + v % 64).toNat] := by
   unfold byU
   rw [bytesOf3 (by omega) c3]
   simp only [List.map_cons, List.map_nil]
   rw [show (224 + v / 4096) % 256 = 224 + v / 4096 by omega, show (128 + v / 64 % 64) % 256 = 128 + v / 64 % 64 by omega, show (128 + v % 64) % 256 = 128 + v % 64 by omega]
  rw [e, List.cons_append, List.cons_append, List.cons_append, List.nil_append]
  have a1 : (UInt8.ofNat (224 + v / 4096).toNat).toNat = (224 + v / 4096).toNat := ofNat_toNat (by omega)
  have a2 : (UInt8.ofNat (128 + v / 64 % 64).toNat).toNat = (128 + v / 64 % 64).toNat := ofNat_toNat (by omega)
  have a3 : (UInt8.ofNat (128 + v % 64).toNat).toNat = (128 + v % 64).toNat := ofNat_toNat (by omega)
  have hl : leadN (224 + v / 4096).toNat = 3 := by
   unfold leadN
   rw [if_neg (by omega), if_neg (by omega), if_neg (by omega), if_pos (by omega)]
  have hv : leadV (224 + v / 4096).toNat = ((224 + v / 4096).toNat : Int) % 16 := by
   unfold leadV
   rw [if_neg (by omega), if_neg (by omega), if_neg (by omega), if_pos (by omega)]
  rw [nextP, a1, if_neg (by rw [hl]; simp), hl, hv]
  simp only [Nat.reduceSub, tailV, a2, a3]
  rw [if_pos (by omega), if_pos (by omega)]
  have ev : (((224 + v / 4096).toNat : Int) % 16 * 64 + ((128 + v / 64 % 64).toNat : Int) % 64) * 64 + ((128 + v % 64).toNat : Int) % 64 = v := by omega
  rw [ev, finN, if_neg (by rw [hs]; simp [leastOf]; omega)]
  rfl
 ·have e : byU v = [UInt8.ofNat (240 + v / 262144).toNat, UInt8.ofNat (128 + v / 4096 % 64).toNat, UInt8.ofNat (128 + v / 64 % 64).toNat, UInt8.ofNat (128 + v % 64).toNat] := by
   unfold byU
   rw [bytesOf4 (by omega)]
   simp only [List.map_cons, List.map_nil]
   rw [show (240 + v / 262144) % 256 = 240 + v / 262144 by omega, show (128 + v / 4096 % 64) % 256 = 128 + v / 4096 % 64 by omega, show (128 + v / 64 % 64) % 256 = 128 + v / 64 % 64 by omega, show (128 + v % 64) % 256 = 128 + v % 64 by omega]
  rw [e, List.cons_append, List.cons_append, List.cons_append, List.cons_append, List.nil_append]
  have a1 : (UInt8.ofNat (240 + v / 262144).toNat).toNat = (240 + v / 262144).toNat := ofNat_toNat (by omega)
  have a2 : (UInt8.ofNat (128 + v / 4096 % 64).toNat).toNat = (128 + v / 4096 % 64).toNat := ofNat_toNat (by omega)
  have a3 : (UInt8.ofNat (128 + v / 64 % 64).toNat).toNat = (128 + v / 64 % 64).toNat := ofNat_toNat (by omega)
  have a4 : (UInt8.ofNat (128 + v % 64).toNat).toNat = (128 + v % 64).toNat := ofNat_toNat (by omega)
  have hl : leadN (240 + v / 262144).toNat = 4 := by
   unfold leadN
   rw [if_neg (by omega), if_neg (by omega), if_neg (by omega), if_neg (by omega), if_pos (by omega)]
  have hv : leadV (240 + v / 262144).toNat = ((240 + v / 262144).toNat : Int) % 8 := by
   unfold leadV
   rw [if_neg (by omega), if_neg (by omega), if_neg (by omega), if_neg (by omega), if_pos (by omega)]
  rw [nextP, a1, if_neg (by rw [hl]; simp), hl, hv]
  simp only [Nat.reduceSub, tailV, a2, a3, a4]
  rw [if_pos (by omega), if_pos (by omega), if_pos (by omega)]
  have ev : ((((240 + v / 262144).toNat : Int) % 8 * 64 + ((128 + v / 4096 % 64).toNat : Int) % 64) * 64 + ((128 + v / 64 % 64).toNat : Int) % 64) * 64 + ((128 + v % 64).toNat : Int) % 64 = v := by omega
  rw [ev, finN, if_neg (by rw [hs]; simp [leastOf]; omega)]
  rfl
end Go.Proofs.YtdegonmkikfghaaGreatDoor
namespace Go.Proofs.YtdegonmkikfghaaGreatDoor
open Lib (hid)
open Go.RowKit
set_option maxRecDepth 100000
def eolC (c : UInt8) : Bool := c == 10 || c == 13
def eolF (l : List UInt8) (i : Nat) : Nat := if _h : l.length <= i then i else if eolC (l.getD i 0) = true then i else eolF l (i + 1)
termination_by l.length - i
theorem eolF_end {l : List UInt8} {i : Nat} (h : l.length <= i) : eolF l i = i := by rw [eolF, dif_pos h]
theorem eolF_hit {l : List UInt8} {i : Nat} (h : i < l.length) (hc : eolC (l.getD i 0) = true) : eolF l i = i := by rw [eolF, dif_neg (by omega), if_pos hc]
theorem eolF_go {l : List UInt8} {i : Nat} (h : i < l.length) (hc : eolC (l.getD i 0) = false) : eolF l i = eolF l (i + 1) := by rw [eolF, dif_neg (by omega), if_neg (by rw [hc]; simp)]
theorem eolF_bound (l : List UInt8) : ∀ (k i : Nat), l.length - i <= k -> i <= l.length -> i <= eolF l i /\ eolF l i <= l.length
 | k, i, hk, hi => by
  by_cases h : l.length <= i
  ·rw [eolF_end h]; omega
  cases hc : eolC (l.getD i 0) with
  | true => rw [eolF_hit (by omega) hc]; omega
  | false =>
   rw [eolF_go (by omega) hc]
   match k, hk with
   | 0, hk => omega
   | k + 1, hk =>
    have := eolF_bound l k (i + 1) (by omega) (by omega)
    omega
theorem eolF_ge (l : List UInt8) (i : Nat) : i <= eolF l i := by
 by_cases h : i <= l.length
 ·exact (eolF_bound l l.length i (by omega) h).1
 ·rw [eolF_end (by omega)]; exact Nat.le_refl _
def eachF (l : List UInt8) (i : Nat) : List (Nat × QuadL) × Option (Nat × Int) :=
 if _h : l.length <= i then ([], none) else match lineAt (cutF l i (eolF l i)) with
 | .inr f => ([], some (i + f.1, f.2))
 | .inl none => eachF l (eolF l i + 1)
 | .inl (some q) => ((i, q) :: (eachF l (eolF l i + 1)).1, (eachF l (eolF l i + 1)).2)
termination_by l.length - i
decreasing_by all_goals (have := eolF_ge l i; omega)
theorem eachF_end {l : List UInt8} {i : Nat} (h : l.length <= i) : eachF l i = ([], none) := by rw [eachF, dif_pos h]
theorem eachF_bad {l : List UInt8} {i p : Nat} {e : Int} (h : i < l.length) (hq : lineAt (cutF l i (eolF l i)) = .inr (p, e)) : eachF l i = ([], some (i + p, e)) := by
 rw [eachF, dif_neg (by omega), hq]
theorem eachF_none {l : List UInt8} {i : Nat} (h : i < l.length) (hq : lineAt (cutF l i (eolF l i)) = .inl none) : eachF l i = eachF l (eolF l i + 1) := by
 rw [eachF, dif_neg (by omega), hq]
theorem eachF_some {l : List UInt8} {i : Nat} {q : QuadL} (h : i < l.length) (hq : lineAt (cutF l i (eolF l i)) = .inl (some q)) : eachF l i = ((i, q) :: (eachF l (eolF l i + 1)).1, (eachF l (eolF l i + 1)).2) := by
 rw [eachF, dif_neg (by omega), hq]
end Go.Proofs.YtdegonmkikfghaaGreatDoor
namespace Go.Proofs.YtdegonmkikfghaaGreatDoor
open Lib (hid)
open Go.RowKit
set_option maxRecDepth 100000
theorem putF_inl {a t : List UInt8} {o : List UInt8 ⊕ (Nat × Int)} (h : putF a o = .inl t) : ∃ r, o = .inl r /\ t = a ++ r := by
 cases o with
 | inl r => simp only [putF] at h; cases h; exact ⟨r, rfl, rfl⟩
 | inr f => simp only [putF] at h; cases h
theorem atF_scal {way v e : Int} {l : List UInt8} {j n : Nat} (h : atF way l j = ((v, n), e)) (hn : n ≠ 0) : scal v = true /\ j + n <= l.length := by
 unfold atF at h
 split at h
 ·have h1 := congrArg Prod.fst h
  simp only at h1
  have := escN_bound h1 hn
  exact ⟨this.2, by have := this.1; simp at this; omega⟩
 ·have h1 := congrArg Prod.fst h
  simp only at h1
  have h2 := nextAt_bound h1 hn
  exact ⟨(nextAt_bytes h1 hn).2, by omega⟩
theorem cut_next {l : List UInt8} {b i E n : Nat} {v : Int} (hb : b <= i) (hE : i + n <= E) (hq : nextAt l (i : Int) = (v, n)) (hn : n ≠ 0) : nextAt ((l.drop b).take (E - b)) ((i - b : Nat) : Int) = (v, n) := by
 have hy := nextAt_bytes hq hn
 rw [nextAt_nat, List.drop_take, List.drop_drop, show b + (i - b) = i by omega, show E - b - (i - b) = E - i by omega]
 have hl := (nextAt_bound hq hn).2.1
 have e : (l.drop i).take (E - i) = byU v ++ ((l.drop i).drop n).take (E - i - n) := by
  rw [hy.1]
  conv => lhs; rw [<- List.take_append_drop n (l.drop i)]
  rw [List.take_append, List.length_take, List.length_drop, Nat.min_eq_left (by omega), List.take_of_length_le (by simp; omega)]
 have hlen : (byU v).length = n := by rw [hy.1, List.length_take, List.length_drop]; omega
 rw [e, next_byU hy.2, hlen]
theorem tail_run (l : List UInt8) (b : Nat) : ∀ (k i e E : Nat), l.length - i <= k -> b <= i -> tailF l i e = E -> E <= l.length -> E = e \/ (i < E /\ ∃ sc, sc ≠ [] /\ scalF ((l.drop b).take (E - b)) (i - b) = some sc /\ okRest sc = true)
 | k, i, e, E, hk, hb, h, hEl => by
  obtain ⟨v, n, hq⟩ : ∃ v n, nextAt l (i : Int) = (v, n) := ⟨_, _, rfl⟩
  by_cases hs : n = 0 \/ (v ≠ 46 /\ followB v = false)
  ·rw [tailF_stop hq hs] at h; exact .inl h.symm
  have hn : n ≠ 0 := fun x => hs (.inl x)
  rw [tailF_go hq hs] at h
  have hbd := (nextAt_bound hq hn).2.1
  have hbd2 : i + n <= l.length := by omega
  have hlen : ((l.drop b).take (E - b)).length = E - b := by rw [List.length_take, List.length_drop]; omega
  match k, hk with
  | 0, hk => omega
  | k + 1, hk =>
   have ih := fun e' => tail_run l b k (i + n) e' E (by omega) (by omega)
   by_cases hv : v = 46
   ·subst hv
    rw [if_pos rfl] at h
    rcases ih e h hEl with h1 | ⟨h1, sc, h2, h3, h4⟩
    ·exact .inl h1
    ·refine .inr ⟨by omega, 46 :: sc, by simp, ?_, by rw [okRest_dot h2]; exact h4⟩
     rw [scalF_go (by rw [hlen]; omega) (cut_next hb (by omega) hq hn) hn, show i - b + n = i + n - b by omega, h3]
     rfl
   ·rw [if_neg hv] at h
    have hf : followB v = true := by
     cases hf : followB v with
     | true => rfl
     | false => exact absurd (.inr ⟨hv, hf⟩) hs
    rcases ih (i + n) h hEl with h1 | ⟨h1, sc, h2, h3, h4⟩
    ·refine .inr ⟨by omega, [v], by simp, ?_, by rw [okRest_follow hf]; rfl⟩
     rw [scalF_go (by rw [hlen]; omega) (cut_next hb (by omega) hq hn) hn, scalF_end (by rw [hlen]; omega)]
     rfl
    ·refine .inr ⟨by omega, v :: sc, by simp, ?_, by rw [okRest_follow hf]; exact h4⟩
     rw [scalF_go (by rw [hlen]; omega) (cut_next hb (by omega) hq hn) hn, show i - b + n = i + n - b by omega, h3]
     rfl
theorem tailF_le (l : List UInt8) : ∀ (k i e : Nat), l.length - i <= k -> e <= l.length -> tailF l i e <= l.length
 | k, i, e, hk, he => by
  obtain ⟨v, n, hq⟩ : ∃ v n, nextAt l (i : Int) = (v, n) := ⟨_, _, rfl⟩
  by_cases hs : n = 0 \/ (v ≠ 46 /\ followB v = false)
  ·rw [tailF_stop hq hs]; exact he
  have hn : n ≠ 0 := fun x => hs (.inl x)
  have hbd := (nextAt_bound hq hn).2.1
  rw [tailF_go hq hs]
  match k, hk with
  | 0, hk => omega
  | k + 1, hk => exact tailF_le l k (i + n) _ (by omega) (by split <;> omega)
theorem run_ok {l : List UInt8} {b : Nat} (h : runF labelB l (b : Nat) ≠ 0) : b + runF labelB l (b : Nat) <= l.length /\ wholeR labelB (cutF l b (b + runF labelB l (b : Nat))) = true := by
 obtain ⟨v, n, hq⟩ : ∃ v n, nextAt l (b : Int) = (v, n) := ⟨_, _, rfl⟩
 by_cases hs : n = 0 \/ labelB v = false
 ·rw [runF_no hq hs] at h; exact absurd rfl h
 have hn : n ≠ 0 := fun x => hs (.inl x)
 have hl : labelB v = true := by
  cases hf : labelB v with
  | true => rfl
  | false => exact absurd (.inr hf) hs
 have hbd := (nextAt_bound hq hn).2.1
 rw [runF_go hq hs] at h ⊢
 obtain ⟨E, hE⟩ : ∃ E, tailF l (b + n) (b + n) = E := ⟨_, rfl⟩
 have h1 := tailF_le l l.length (b + n) (b + n) (by omega) (by omega)
 have h2 := tailF_ge l l.length (b + n) (b + n) (by omega) (Nat.le_refl _)
 rw [hE] at h h1 h2 ⊢
 refine ⟨by omega, ?_⟩
 have hlen : ((l.drop b).take (E - b)).length = E - b := by rw [List.length_take, List.length_drop]; omega
 have hc : cutF l b (b + (E - b)) = (l.drop b).take (E - b) := by unfold cutF; rw [Nat.add_sub_cancel_left]
 have hq2 := cut_next (E := E) (Nat.le_refl b) (by omega) hq hn
 rw [Nat.sub_self] at hq2
 rw [hc]
 unfold wholeR
 rw [scalF_go (by rw [hlen]; omega) hq2 hn, Nat.zero_add]
 rcases tail_run l b l.length (b + n) (b + n) E (by omega) (by omega) hE h1 with h3 | ⟨h3, sc, _, h5, h6⟩
 ·rw [scalF_end (by rw [hlen]; omega)]
  simp [hl, okRest]
 ·rw [show b + n - b = n by omega] at h5
  rw [h5]
  simp [hl, h6]
end Go.Proofs.YtdegonmkikfghaaGreatDoor
namespace Go.Proofs.YtdegonmkikfghaaGreatDoor
open Lib (hid)
open Go.RowKit
set_option maxRecDepth 100000
def NextOut (w' : World) (e : Ending) : (TermL × Nat) ⊕ (Nat × Int) -> Prop
 | .inl (t, n) => e = .returned (.tuple #[termV t, .int .i64 (n : Int), .nilIface])
 | .inr (p, c) => ∃ t n v, e = .returned (.tuple #[termV t, .int .i64 n, v]) /\ ErrIs w' v (.inr (p, c))
theorem nextOut_bad {x : (TermL × Nat) ⊕ (Nat × Int)} {p : Nat} {c : Int} {w : World} {v : Value} {k n : Int} {a b d : List UInt8} (h : x = .inr (p, c)) (he : ErrIs w v (.inr (p, c))) :
  NextOut w (.returned (.tuple #[.agg #[.int .i64 k, .string (B a), .string (B b), .string (B d)], .int .i64 n, v])) x := by
 subst h
 exact ⟨⟨k, a, b, d⟩, n, v, rfl, he⟩
theorem err_set {w : World} {v u : Value} {x : List UInt8 ⊕ (Nat × Int)} {R o : Nat} (h : ErrIs w v x) (hR : ∀ b, v = .iface 86 (.pointer (some ⟨b, 0, none⟩)) -> b ≠ R) : ErrIs (w.setCell ⟨R, o, none⟩ u) v x := by
 rcases x with t | ⟨p, n⟩
 ·exact h
 ·obtain ⟨b, rfl, h1, h2⟩ := h
  have hne := hR b rfl
  exact ⟨b, rfl, by rw [World.cell?_setCell_other _ _ _ _ (fun e => hne (by cases e; rfl))]; exact h1, by rw [World.cell?_setCell_other _ _ _ _ (fun e => hne (by cases e; rfl))]; exact h2⟩
theorem err_new (w : World) (p : Nat) (n : Int) : ErrIs (w.alloc (.cells #[.int .i64 (p : Int), .iface 26 (.int .i64 n)] 88)) (.iface 86 (.pointer (some ⟨w.heap.size, 0, none⟩))) (.inr (p, n)) :=
 ⟨_, rfl, by rw [World.cell?_alloc_new]; rfl, by rw [World.cell?_alloc_new]; rfl⟩
set_option maxHeartbeats 400000 in
theorem nothing_l (l : List UInt8) (i : Nat) (w : World) :
  Calls Tryz.prog 167 #[.string (B l), .int .i64 (i : Int)] w fun e w' => NextOut w' e (.inr (i, 90)) /\ Below w.heap.size w w' := by
 have AT := hid termAtErr_l
 go_enter Tryz.func167, Tryz.ntmps167
 go_wp2_with (go_at_call 217; refine (AT.out _ _ _).mono ?_; rintro e w4 ⟨rfl, rfl⟩)
 refine bodyPost_ret (v := .tuple #[.agg #[.int .i64 0, .string ⟨#[]⟩, .string ⟨#[]⟩, .string ⟨#[]⟩], .int .i64 0, .iface 86 (.pointer (some ⟨w.heap.size + 1, 0, none⟩))]) (by simp [results, Tryz.results167, go_sem]) rfl ?_
 refine ⟨nextOut_bad (a := []) (b := []) (d := []) rfl ?_, ((Below.refl _ _).alloc (Nat.le_refl _) _).alloc (by simp) _⟩
 have h := err_new (w.alloc (.cells #[.int .i64 0, .string ⟨#[]⟩, .string ⟨#[]⟩, .string ⟨#[]⟩] 34)) i 90
 rw [World.size_alloc] at h
 exact h
theorem assertB (a : Option Addr) (u : World) : (Instr.typeAssert (.iface 86 (.pointer a)) 38 86 false).run Tryz.prog u = .ok (.pointer a) u := by kernel_rfl
set_option maxHeartbeats 400000 in
theorem moved_l (v : Value) (p d : Nat) (D n : Int) (hD : D = (d : Int)) (w : World) (hv : ErrIs w v (.inr (p, n))) (hp : p + d <= 4611686018427387904) :
  Calls Tryz.prog 219 #[v, .int .i64 D] w fun e w' => ∃ v', e = .returned v' /\ ErrIs w' v' (.inr (p + d, n)) /\ Below w.heap.size w w' := by
 subst hD
 obtain ⟨b, rfl, h1, h2⟩ := hv
 have hb : b < w.heap.size := World.block_lt_of_cell? _ _ h1
 have TA := fun u => assertB (some ⟨b, 0, none⟩) u
 go_enter Tryz.func219, Tryz.ntmps219
 go_wp2_with fail
 refine region_still 10 (by kernel_rfl) (by kernel_rfl) ?_; simp only [List.take_succ_cons, List.take_zero, List.drop_succ_cons, List.drop_zero]
 repeat still_step
 refine wpStill_nil ?_
 go_wp2_with fail
 go_ret
 refine ⟨_, rfl, ⟨w.heap.size, rfl, ?_, ?_⟩, ((Below.refl _ _).alloc (Nat.le_refl _) _).drew⟩
 ·rw [show (w.alloc (.cells #[.int .i64 ((p : Int) + (d : Int)), .iface 26 (.int .i64 n)] 88)).drew.cell? ⟨w.heap.size, 0, none⟩ = (w.alloc (.cells #[.int .i64 ((p : Int) + (d : Int)), .iface 26 (.int .i64 n)] 88)).cell? ⟨w.heap.size, 0, none⟩ from rfl, World.cell?_alloc_new]; rfl
 ·rw [show (w.alloc (.cells #[.int .i64 ((p : Int) + (d : Int)), .iface 26 (.int .i64 n)] 88)).drew.cell? ⟨w.heap.size, 1, none⟩ = (w.alloc (.cells #[.int .i64 ((p : Int) + (d : Int)), .iface 26 (.int .i64 n)] 88)).cell? ⟨w.heap.size, 1, none⟩ from rfl, World.cell?_alloc_new]; rfl
theorem unescape_ok {way : Int} {l t : List UInt8} (h : unescF way l 0 = .inl t) (hl : l.length <= 16777216) (w : World) :
  Calls Tryz.prog 218 #[.string (B l), .int .i64 way] w fun e w' => e = .returned (.tuple #[.string (B t), .nilIface]) /\ Below w.heap.size w w' :=
 (unescape_l way l w hl).mono fun e w' => by
  rw [h]
  rintro ⟨⟨v, rfl, hv⟩, hb⟩
  obtain rfl : v = .nilIface := hv
  exact ⟨rfl, hb⟩
theorem unescape_bad {way : Int} {l : List UInt8} {p : Nat} {n : Int} (h : unescF way l 0 = .inr (p, n)) (hl : l.length <= 16777216) (w : World) :
  Calls Tryz.prog 218 #[.string (B l), .int .i64 way] w fun e w' => ∃ b, e = .returned (.tuple #[.string ⟨#[]⟩, .iface 86 (.pointer (some ⟨b, 0, none⟩))]) /\ ErrIs w' (.iface 86 (.pointer (some ⟨b, 0, none⟩))) (.inr (p, n)) /\ Below w.heap.size w w' :=
 (unescape_l way l w hl).mono fun e w' => by
  rw [h]
  rintro ⟨⟨v, rfl, hv⟩, hb⟩
  have hv2 := hv
  obtain ⟨b, rfl, _, _⟩ := hv
  exact ⟨b, rfl, hv2, hb⟩
theorem unesc_len (way : Int) (l : List UInt8) : ∀ (k j : Nat) (t : List UInt8), l.length - j <= k -> unescF way l j = .inl t -> t.length <= 4 * (l.length - j)
 | k, j, t, hk, h => by
  by_cases hj : l.length <= j
  ·rw [unescF_end hj] at h; cases h; simp
  obtain ⟨v, n, e, hq⟩ : ∃ v n e, atF way l j = ((v, n), e) := ⟨_, _, _, rfl⟩
  by_cases hn : n = 0
  ·subst hn; rw [unescF_bad (by omega) hq] at h; cases h
  ·rw [unescF_go (by omega) hq hn] at h
   obtain ⟨r, h2, rfl⟩ := putF_inl h
   match k, hk with
   | 0, hk => omega
   | k + 1, hk =>
    have h3 := unesc_len way l k (j + n) r (by omega) h2
    have h4 := byU_len v
    have h5 := (atF_scal hq hn).2
    simp
    omega
theorem ix_gt {l : List UInt8} : ∀ (k i : Nat), l.length - i <= k -> i <= l.length -> Lib.indexByte (l.drop i) 62 = if l.length <= gtF l i then -1 else ((gtF l i : Int) - i)
 | k, i, hk, hi => by
  by_cases h : l.length <= i
  ·rw [gtF_end h, if_pos h, List.drop_of_length_le h]; rfl
  rw [List.drop_eq_getElem_cons (by omega)]
  have hg : l.getD i 0 = l[i]'(by omega) := getD_at (by omega)
  unfold Lib.indexByte
  by_cases hc : l.getD i 0 = 62
  ·rw [gtF_hit (by omega) hc, <- hg, hc, if_neg (c := l.length <= i) h]; simp
  ·rw [<- hg, gtF_go (by omega) hc, beq_eq_false_iff_ne.2 hc]
   match k, hk with
   | 0, hk => omega
   | k + 1, hk =>
    rw [ix_gt k (i + 1) (by omega) (by omega)]
    have hb := gtF_bound l l.length (i + 1) (by omega) (by omega)
    by_cases he : l.length <= gtF l (i + 1)
    ·simp [he]
    ·rw [if_neg (c := l.length <= gtF l (i + 1)) he]
     have : ((gtF l (i + 1) : Int) - (i + 1 : Nat) == -1) = false := beq_eq_false_iff_ne.2 (by omega)
     rw [this]
     simp
     omega
end Go.Proofs.YtdegonmkikfghaaGreatDoor
namespace Go.Proofs.YtdegonmkikfghaaGreatDoor
open Lib (hid)
open Go.RowKit
set_option maxRecDepth 100000
theorem getD_lt {l : List UInt8} {i : Nat} {c : UInt8} (h : l.getD i 0 = c) (hc : c ≠ 0) : i < l.length := by
 by_cases hi : i < l.length
 ·exact hi
 ·rw [List.getD_eq_getElem?_getD, List.getElem?_eq_none (by omega)] at h
  exact absurd h.symm hc
theorem putF_inr {a : List UInt8} {f : Nat × Int} {o : List UInt8 ⊕ (Nat × Int)} (h : putF a o = .inr f) : o = .inr f := by
 cases o with
 | inl r => simp only [putF] at h; cases h
 | inr g => simp only [putF] at h; cases h; rfl
theorem unesc_at (way : Int) (l : List UInt8) : ∀ (k j p : Nat) (e : Int), l.length - j <= k -> unescF way l j = .inr (p, e) -> p < l.length /\ (e = 40 \/ e = 41)
 | k, j, p, e, hk, h => by
  by_cases hj : l.length <= j
  ·rw [unescF_end hj] at h; cases h
  obtain ⟨v, n, e', hq⟩ : ∃ v n e, atF way l j = ((v, n), e) := ⟨_, _, _, rfl⟩
  by_cases hn : n = 0
  ·subst hn
   rw [unescF_bad (by omega) hq] at h
   cases h
   refine ⟨by omega, ?_⟩
   unfold atF at hq
   split at hq
   ·have := congrArg Prod.snd hq; simp only at this; omega
   ·have := congrArg Prod.snd hq; simp only at this; omega
  ·rw [unescF_go (by omega) hq hn] at h
   match k, hk with
   | 0, hk => omega
   | k + 1, hk => exact unesc_at way l k (j + n) p e (by omega) (putF_inr h)
theorem cutF_len2 {l : List UInt8} {a b : Nat} (h : b <= l.length) : (cutF l a b).length = b - a := by unfold cutF; simp; omega
theorem iriAt_bad {l : List UInt8} {i p : Nat} {e : Int} (hi : i <= l.length) (h : iriAt l i = .inr (p, e)) : p <= l.length /\ e ≠ 0 := by
 unfold iriAt at h
 split at h
 ·cases h; exact ⟨hi, by decide⟩
 ·next h60 =>
  have hlt := getD_lt (Classical.not_not.1 h60) (by decide)
  split at h
  ·cases h; exact ⟨Nat.le_refl _, by decide⟩
  ·next hg =>
   split at h
   ·next q c hu =>
    cases h
    have := unesc_at 2 _ _ 0 q e (Nat.le_refl _) hu
    rw [cutF_len2 (by omega)] at this
    exact ⟨by omega, by omega⟩
   ·split at h
    ·next t _ hne => cases h; exact ⟨hi, hne⟩
    ·cases h
theorem iriAt_good {l t : List UInt8} {i n : Nat} (h : iriAt l i = .inl (t, n)) : iriN t = 0 /\ i < n /\ n <= l.length := by
 unfold iriAt at h
 split at h
 ·cases h
 ·next h60 =>
  have hlt := getD_lt (Classical.not_not.1 h60) (by decide)
  split at h
  ·cases h
  ·next hg =>
   split at h
   ·cases h
   ·split at h
    ·cases h
    ·next hne =>
     cases h
     have := gtF_bound l l.length (i + 1) (by omega) (by omega)
     exact ⟨Classical.not_not.1 hne, by omega, by omega⟩
theorem tagAt_bad {l : List UInt8} {i p : Nat} {e : Int} (hi : i < l.length) (h : tagAt l i = .inr (p, e)) : p <= l.length /\ e ≠ 0 := by
 unfold tagAt at h
 split at h
 ·cases h; exact ⟨by omega, by decide⟩
 ·split at h
  ·cases h; exact ⟨by omega, by decide⟩
  ·cases h
theorem behindF_bad {l t : List UInt8} {k p : Nat} {e : Int} (hk : k <= l.length) (h : behindF l t k = .inr (p, e)) : p <= l.length /\ e ≠ 0 := by
 unfold behindF at h
 split at h
 ·next h64 =>
  split at h
  ·next f hf => cases h; exact tagAt_bad (getD_lt h64 (by decide)) hf
  ·cases h
 ·split at h
  ·next h94 =>
   have := getD_lt h94.2 (by decide)
   split at h
   ·next f hf => cases h; exact iriAt_bad (by omega) hf
   ·split at h
    ·cases h; exact ⟨hk, by decide⟩
    ·cases h
  ·cases h
theorem closeF_bad (l : List UInt8) : ∀ (k i : Nat) (s : Bool) (p : Nat) (e : Int), l.length - i <= k -> closeF l i s = .inr (p, e) -> p <= l.length /\ e ≠ 0
 | k, i, s, p, e, hk, hq => by
  by_cases h : l.length <= i
  ·rw [closeF_end h] at hq; cases hq; exact ⟨Nat.le_refl _, by decide⟩
  by_cases h1 : l.getD i 0 = 10 \/ l.getD i 0 = 13
  ·rw [closeF_line (by omega) h1] at hq; cases hq; exact ⟨by omega, by decide⟩
  have step : ∀ s', closeF l (i + 1) s' = .inr (p, e) -> p <= l.length /\ e ≠ 0 := fun s' h' => by
   match k, hk with
   | 0, hk => omega
   | k + 1, hk => exact closeF_bad l k (i + 1) s' p e (by omega) h'
  cases s with
  | true => rw [closeF_behind (by omega) h1] at hq; exact step _ hq
  | false =>
   by_cases h2 : l.getD i 0 = 92
   ·rw [closeF_slash (by omega) h2] at hq; exact step _ hq
   by_cases h3 : l.getD i 0 = 34
   ·rw [closeF_quote (by omega) h3] at hq; cases hq
   ·rw [closeF_go (by omega) h1 h2 h3] at hq; exact step _ hq
theorem litAt_bad {l : List UInt8} {i p : Nat} {e : Int} (hi : i < l.length) (h : litAt l i = .inr (p, e)) : p <= l.length /\ e ≠ 0 := by
 unfold litAt at h
 split at h
 ·next f hf => cases h; exact closeF_bad l l.length (i + 1) false p e (by omega) hf
 ·next k hc =>
  have hb := closeF_bound l l.length (i + 1) false k (by omega) hc
  split at h
  ·next q c hu =>
   cases h
   have := unesc_at 1 _ _ 0 q e (Nat.le_refl _) hu
   rw [cutF_len2 (by omega)] at this
   exact ⟨by omega, by omega⟩
  ·split at h
   ·cases h; exact ⟨by omega, by decide⟩
   ·exact behindF_bad (by omega) h
theorem blankAt_bad {l : List UInt8} {i p : Nat} {e : Int} (hi : i < l.length) (h : blankAt l i = .inr (p, e)) : p <= l.length /\ e ≠ 0 := by
 unfold blankAt at h
 split at h
 ·cases h; exact ⟨by omega, by decide⟩
 ·next h58 =>
  have := getD_lt (Classical.not_not.1 h58) (by decide)
  split at h
  ·cases h; exact ⟨by omega, by decide⟩
  ·split at h
   ·cases h; exact ⟨by omega, by decide⟩
   ·cases h
theorem termAt_bad {l : List UInt8} {i p : Nat} {e : Int} (hi : i <= l.length) (h : termAt l i = .inr (p, e)) : p <= l.length /\ e ≠ 0 := by
 unfold termAt at h
 split at h
 ·split at h
  ·next f hf => cases h; exact iriAt_bad hi hf
  ·cases h
 ·split at h
  ·next h34 => exact litAt_bad (getD_lt h34 (by decide)) h
  ·split at h
   ·next h95 => exact blankAt_bad (getD_lt h95 (by decide)) h
   ·cases h; exact ⟨hi, by decide⟩
theorem termAt_end {l : List UInt8} {i n : Nat} {t : TermL} (h : termAt l i = .inl (t, n)) : i < n /\ n <= l.length := by
 unfold termAt at h
 split at h
 ·split at h
  ·cases h
  ·next hf => cases h; exact (iriAt_good hf).2
 ·split at h
  ·next h34 =>
   have hi := getD_lt h34 (by decide)
   unfold litAt at h
   split at h
   ·cases h
   ·next k hc =>
    have hb := closeF_bound l l.length (i + 1) false k (by omega) hc
    split at h
    ·cases h
    ·split at h
     ·cases h
     ·unfold behindF at h
      split at h
      ·next h64 =>
       have h64' := getD_lt h64 (by decide)
       split at h
       ·cases h
       ·next lang m hf =>
        cases h
        unfold tagAt at hf
        split at hf
        ·cases hf
        ·split at hf
         ·cases hf
         ·cases hf
          have := tagE_bound l l.length (k + 1 + 1) (by omega) (by omega)
          omega
      ·split at h
       ·split at h
        ·cases h
        ·next ty m hf =>
         have := iriAt_good hf
         split at h
         ·cases h
         ·cases h; omega
       ·cases h; omega
  ·split at h
   ·next h95 =>
    unfold blankAt at h
    split at h
    ·cases h
    ·split at h
     ·cases h
     ·next h0 =>
      have := (run_ok h0).1
      split at h
      ·cases h
      ·cases h; omega
   ·cases h
theorem slotF_bad {l s : List UInt8} {i p : Nat} {e : Int} (hi : i <= l.length) (h : slotF l i s = .inr (p, e)) : p <= l.length /\ e ≠ 0 := by
 unfold slotF at h
 split at h
 ·split at h
  ·next f hf => cases h; exact termAt_bad hi hf
  ·cases h
 ·cases h; exact ⟨hi, by decide⟩
theorem slotF_end {l s : List UInt8} {i n : Nat} {t : TermL} (h : slotF l i s = .inl (t, n)) : i < n /\ n <= l.length := by
 unfold slotF at h
 split at h
 ·split at h
  ·cases h
  ·next hf =>
   cases h
   have := termAt_end hf
   have h2 := blkF_bound l l.length _ (by omega) this.2
   omega
 ·cases h
theorem stmtF_bad {l : List UInt8} {i p : Nat} {e : Int} (hi : i <= l.length) (h : stmtF l i = .inr (p, e)) : p <= l.length /\ e ≠ 0 := by
 unfold stmtF at h
 split at h
 ·next f hf => cases h; exact slotF_bad hi hf
 ·next s i1 h1 =>
  have e1 := slotF_end h1
  split at h
  ·next f hf => cases h; exact slotF_bad e1.2 hf
  ·next p' i2 h2 =>
   have e2 := slotF_end h2
   split at h
   ·next f hf => cases h; exact slotF_bad e2.2 hf
   ·next o i3 h3 =>
    have e3 := slotF_end h3
    split at h
    ·cases h
    ·split at h
     ·next f hf => cases h; exact slotF_bad e3.2 hf
     ·next g i4 h4 =>
      have e4 := slotF_end h4
      split at h
      ·cases h
      ·cases h; exact ⟨e4.2, by decide⟩
theorem stmtF_end {l : List UInt8} {i n : Nat} {q : QuadL} (h : stmtF l i = .inl (q, n)) : i < n /\ n <= l.length := by
 unfold stmtF at h
 split at h
 ·cases h
 ·next s i1 h1 =>
  have e1 := slotF_end h1
  split at h
  ·cases h
  ·next p' i2 h2 =>
   have e2 := slotF_end h2
   split at h
   ·cases h
   ·next o i3 h3 =>
    have e3 := slotF_end h3
    split at h
    ·next h46 => cases h; have := getD_lt h46 (by decide); omega
    ·split at h
     ·cases h
     ·next g i4 h4 =>
      have e4 := slotF_end h4
      split at h
      ·next h46 => cases h; have := getD_lt h46 (by decide); omega
      ·cases h
theorem restF_bad {l : List UInt8} {i p : Nat} {e : Int} (hi : i <= l.length) (h : restF' l i = some (p, e)) : p <= l.length /\ e ≠ 0 := by
 have hb := blkF_bound l l.length i (by omega) hi
 unfold restF' at h
 split at h
 ·cases h
 ·split at h
  ·cases h; exact ⟨hb.2, by decide⟩
  ·split at h
   ·next hu =>
    cases h
    have := utfF_ge (l.drop (blkF l i)) _ 0 (Nat.le_refl _)
    rw [List.length_drop] at this
    exact ⟨by omega, by decide⟩
   ·cases h
theorem lineAt_bad {l : List UInt8} {p : Nat} {e : Int} (h : lineAt l = .inr (p, e)) : p <= l.length /\ e ≠ 0 := by
 have hb := blkF_bound l l.length 0 (by omega) (Nat.zero_le _)
 unfold lineAt at h
 split at h
 ·split at h
  ·next f hf => cases h; exact stmtF_bad hb.2 hf
  ·next q n hs =>
   split at h
   ·next f hf => cases h; exact restF_bad (stmtF_end hs).2 hf
   ·cases h
 ·split at h
  ·next f hf => cases h; exact restF_bad (Nat.zero_le _) hf
  ·cases h
end Go.Proofs.YtdegonmkikfghaaGreatDoor
