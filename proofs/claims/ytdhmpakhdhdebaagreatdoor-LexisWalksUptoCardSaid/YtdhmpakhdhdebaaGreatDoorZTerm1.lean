/-
  Which terms, quads and datasets are well formed: the plain words. No program in sight. By an AI agent.
-/
import Derived.Test.YtdhmpakhdhdebaaGreatDoorZGPlain
import Std
import Derived.Lib.Small
namespace Go.Proofs.YtdhmpakhdhdebaaGreatDoor
open Go.RowKit
set_option maxRecDepth 100000
def utfF (l : List UInt8) (j : Nat) : Int := if _h : l.length <= j then -1 else if _h2 : (nextAt l j).2 = 0 then (j : Int) else utfF l (j + (nextAt l j).2)
termination_by l.length - j
decreasing_by omega
theorem utfF_end {l : List UInt8} {j : Nat} (h : l.length <= j) : utfF l j = -1 := by rw [utfF, dif_pos h]
theorem utfF_bad {l : List UInt8} {j : Nat} {v : Int} (h : j < l.length) (hq : nextAt l (j : Int) = (v, 0)) : utfF l j = j := by rw [utfF, dif_neg (by omega), hq, dif_pos rfl]
theorem utfF_go {l : List UInt8} {j n : Nat} {v : Int} (h : j < l.length) (hq : nextAt l (j : Int) = (v, n)) (hn : n ≠ 0) : utfF l j = utfF l (j + n) := by
 rw [utfF, dif_neg (by omega), hq, dif_neg hn]
theorem utfF_ge (l : List UInt8) : ∀ (k j : Nat), l.length - j <= k -> -1 <= utfF l j /\ utfF l j < l.length \/ l.length = 0 /\ utfF l j = -1
 | k, j, hk => by
  by_cases h : l.length <= j
  ·rw [utfF_end h]
   by_cases h0 : l.length = 0
   ·exact .inr ⟨h0, rfl⟩
   ·exact .inl ⟨by omega, by omega⟩
  obtain ⟨v, n, hq⟩ : ∃ v n, nextAt l (j : Int) = (v, n) := ⟨_, _, rfl⟩
  by_cases hn : n = 0
  ·subst hn
   rw [utfF_bad (by omega) hq]
   exact .inl ⟨by omega, by omega⟩
  ·rw [utfF_go (by omega) hq hn]
   match k, hk with
   | 0, hk => omega
   | k + 1, hk => exact utfF_ge l k (j + n) (by omega)
end Go.Proofs.YtdhmpakhdhdebaaGreatDoor
namespace Go.Proofs.YtdhmpakhdhdebaaGreatDoor
open Go.RowKit
set_option maxRecDepth 100000
def byU (r : Int) : List UInt8 := (bytesOf r).map fun x => UInt8.ofNat x.toNat
theorem byU_of_ints {r : Int} {b : List UInt8} (h : bytesOf r = ints b) : byU r = b := by
 unfold byU
 rw [h]
 unfold ints
 rw [List.map_map]
 conv => rhs; rw [<- List.map_id b]
 refine List.map_congr_left fun c _ => ?_
 simp
theorem nextFrom_take (r : List UInt8) : ∀ (k m : Nat) (v : Int) (n : Nat), nextFrom r k m = (v, n) -> n ≠ 0 -> 0 <= v /\ n <= r.length /\ guessV (r.take n) = v
 | 0, _, v, n, h, hn => by rw [nextFrom] at h; cases h; exact absurd rfl hn
 | k + 1, m, v, n, h, hn => by
  rw [nextFrom] at h
  split at h
  ·split at h
   ·next h1 h2 => cases h; exact ⟨h2, h1, rfl⟩
   ·exact nextFrom_take r k (m + 1) v n h hn
  ·cases h; exact absurd rfl hn
theorem nextP_bytes {r : List UInt8} {v : Int} {n : Nat} (h : nextP r = (v, n)) (hn : n ≠ 0) : byU v = r.take n /\ scal v = true := by
 rw [<- next_eq] at h
 obtain ⟨h1, _, h3⟩ := nextFrom_take r 4 1 v n h hn
 unfold guessV at h3
 split at h3
 ·next hc =>
  rw [h3] at hc
  exact ⟨byU_of_ints hc.2, hc.1⟩
 ·omega
theorem nextAt_bytes {l : List UInt8} {j n : Nat} {v : Int} (h : nextAt l (j : Int) = (v, n)) (hn : n ≠ 0) : byU v = (l.drop j).take n /\ scal v = true := by
 rw [nextAt_nat] at h
 exact nextP_bytes h hn
theorem byU_len (r : Int) : (byU r).length <= 4 := by
 unfold byU
 rw [List.length_map, bytesOf_len]
 split <;> (try split) <;> (try split) <;> omega
def hexV (c : UInt8) : Option Nat := if 48 <= c.toNat /\ c.toNat <= 57 then some (c.toNat - 48) else if 97 <= c.toNat /\ c.toNat <= 102 then some (c.toNat - 87) else if 65 <= c.toNat /\ c.toNat <= 70 then some (c.toNat - 55) else none
theorem hexV_lt {c : UInt8} {d : Nat} (h : hexV c = some d) : d < 16 := by
 unfold hexV at h
 split at h
 ·cases h; omega
 ·split at h
  ·cases h; omega
  ·split at h
   ·cases h; omega
   ·cases h
def numV : Nat -> List UInt8 -> Nat -> Option Nat
 | acc, _, 0 => some acc
 | _, [], _ + 1 => none
 | acc, c :: t, n + 1 => match hexV c with
  | none => none
  | some d => numV (acc * 16 + d) t n
theorem numV_len : ∀ {n : Nat} {acc : Nat} {t : List UInt8} {v : Nat}, numV acc t n = some v -> n <= t.length /\ v < (acc + 1) * 16 ^ n
 | 0, acc, t, v, h => by rw [numV] at h; cases h; simp
 | n + 1, acc, [], v, h => by rw [numV] at h; cases h
 | n + 1, acc, c :: t, v, h => by
  rw [numV] at h
  cases hd : hexV c with
  | none => rw [hd] at h; cases h
  | some d =>
   rw [hd] at h
   obtain ⟨h1, h2⟩ := numV_len h
   have h3 := hexV_lt hd
   refine ⟨by simp; omega, Nat.lt_of_lt_of_le h2 ?_⟩
   rw [Nat.pow_succ, Nat.mul_comm (16 ^ n) 16, <- Nat.mul_assoc]
   exact Nat.mul_le_mul_right _ (by omega)
def numF (t : List UInt8) (k : Nat) : Option Int := match numV 0 t k with
 | none => none
 | some v => if scal v = true then some v else none
theorem numF_some {t : List UInt8} {k : Nat} {r : Int} (h : numF t k = some r) : k <= t.length /\ scal r = true := by
 unfold numF at h
 cases hv : numV 0 t k with
 | none => rw [hv] at h; cases h
 | some v =>
  rw [hv] at h
  simp only at h
  split at h
  ·next hs => cases h; exact ⟨(numV_len hv).1, hs⟩
  ·cases h
def meantF (c : UInt8) : Option Int := if c = 116 then some 9 else if c = 98 then some 8 else if c = 110 then some 10 else if c = 114 then some 13 else if c = 102 then some 12 else if c = 34 then some 34 else if c = 39 then some 39 else if c = 92 then some 92 else none
def pairN (k : Nat) : Option Int -> Int × Nat
 | none => (0, 0)
 | some r => (r, k)
def escN (way : Int) : List UInt8 -> Int × Nat
 | _ :: c :: t => if c = 117 then pairN 6 (numF t 4) else if c = 85 then pairN 10 (numF t 8) else if way = 1 then pairN 2 (meantF c) else (0, 0)
 | _ => (0, 0)
theorem pairN_some {k n : Nat} {o : Option Int} {v : Int} (h : pairN k o = (v, n)) (hn : n ≠ 0) : o = some v /\ n = k := by
 cases o with
 | none => rw [pairN] at h; cases h; exact absurd rfl hn
 | some r => rw [pairN] at h; cases h; exact ⟨rfl, rfl⟩
theorem meantF_scal {c : UInt8} {r : Int} (h : meantF c = some r) : scal r = true /\ r < 128 := by
 unfold meantF at h
 repeat' (first | (split at h; · cases h; exact ⟨by decide, by decide⟩) | cases h)
theorem escN_bound {way v : Int} {r : List UInt8} {n : Nat} (h : escN way r = (v, n)) (hn : n ≠ 0) : n <= r.length /\ scal v = true := by
 match r, h with
 | [], h => rw [escN] at h; cases h; exact absurd rfl hn; all_goals simp
 | [_], h => rw [escN] at h; cases h; exact absurd rfl hn; all_goals simp
 | _ :: c :: t, h =>
  rw [escN] at h
  split at h
  ·obtain ⟨h1, rfl⟩ := pairN_some h hn
   have := numF_some h1
   exact ⟨by simp; omega, this.2⟩
  ·split at h
   ·obtain ⟨h1, rfl⟩ := pairN_some h hn
    have := numF_some h1
    exact ⟨by simp; omega, this.2⟩
   ·split at h
    ·obtain ⟨h1, rfl⟩ := pairN_some h hn
     exact ⟨by simp, (meantF_scal h1).1⟩
    ·cases h; exact absurd rfl hn
def atF (way : Int) (l : List UInt8) (j : Nat) : (Int × Nat) × Int := if l.getD j 0 = 92 then (escN way (l.drop j), 41) else (nextAt l j, 40)
def unescF (way : Int) (l : List UInt8) (j : Nat) : List UInt8 ⊕ (Nat × Int) :=
 if _h : l.length <= j then .inl [] else if _h2 : (atF way l j).1.2 = 0 then .inr (j, (atF way l j).2) else putF (byU (atF way l j).1.1) (unescF way l (j + (atF way l j).1.2))
termination_by l.length - j
decreasing_by omega
theorem unescF_end {way : Int} {l : List UInt8} {j : Nat} (h : l.length <= j) : unescF way l j = .inl [] := by rw [unescF, dif_pos h]
theorem unescF_bad {way v e : Int} {l : List UInt8} {j : Nat} (h : j < l.length) (hq : atF way l j = ((v, 0), e)) : unescF way l j = .inr (j, e) := by
 rw [unescF, dif_neg (by omega), hq, dif_pos rfl]
theorem unescF_go {way v e : Int} {l : List UInt8} {j n : Nat} (h : j < l.length) (hq : atF way l j = ((v, n), e)) (hn : n ≠ 0) : unescF way l j = putF (byU v) (unescF way l (j + n)) := by
 rw [unescF, dif_neg (by omega), hq, dif_neg hn]
end Go.Proofs.YtdhmpakhdhdebaaGreatDoor
namespace Go.Proofs.YtdhmpakhdhdebaaGreatDoor
open Go.RowKit
set_option maxRecDepth 100000
theorem scal_cases {v : Int} (h : scal v = true) : 0 <= v /\ v <= 1114111 /\ (v < 55296 \/ 57343 < v) := by
 unfold scal at h
 simp at h
 exact ⟨h.1.1, h.1.2, h.2⟩
theorem byU_1 {v : Int} (h0 : 0 <= v) (h : v < 128) : byU v = [UInt8.ofNat v.toNat] := by
 unfold byU
 rw [bytesOf1 h]
 simp only [List.map_cons, List.map_nil]
 rw [Int.emod_eq_of_lt h0 (by omega)]
theorem ofNat_toNat {n : Nat} (h : n < 256) : (UInt8.ofNat n).toNat = n := by simp; omega
theorem next_byU {v : Int} (hs : scal v = true) (rest : List UInt8) : nextP (byU v ++ rest) = (v, (byU v).length) := by
 obtain ⟨h0, hm, hr⟩ := scal_cases hs
 by_cases c1 : v < 128
 ·rw [byU_1 h0 c1, List.cons_append, List.nil_append, nextP_1 (by rw [ofNat_toNat (by omega)]; omega), ofNat_toNat (by omega)]
  simp [Int.toNat_of_nonneg h0]
 by_cases c2 : v < 2048
 ·have e : byU v = [UInt8.ofNat (192 + v / 64).toNat, UInt8.ofNat (128 + v % 64).toNat] := by
   unfold byU
   rw [bytesOf2 (by omega) c2]
   simp only [List.map_cons, List.map_nil]
   rw [Int.emod_eq_of_lt (by omega) (by omega), Int.emod_eq_of_lt (by omega) (by omega)]
  rw [e, List.cons_append, List.cons_append, List.nil_append]
  have a1 : (UInt8.ofNat (192 + v / 64).toNat).toNat = (192 + v / 64).toNat := ofNat_toNat (by omega)
  have a2 : (UInt8.ofNat (128 + v % 64).toNat).toNat = (128 + v % 64).toNat := ofNat_toNat (by omega)
  have hl : leadN (192 + v / 64).toNat = 2 := by
   unfold leadN
   rw [if_neg (by omega), if_neg (by omega), if_pos (by omega)]
  have hv : leadV (192 + v / 64).toNat = ((192 + v / 64).toNat : Int) % 32 := by
   unfold leadV
   rw [if_neg (by omega), if_neg (by omega), if_pos (by omega)]
  rw [nextP, a1, if_neg (by rw [hl]; simp), hl, hv]
  simp only [Nat.add_one_sub_one, tailV, a2]
  rw [if_pos (by omega)]
  have ev : ((192 + v / 64).toNat : Int) % 32 * 64 + ((128 + v % 64).toNat : Int) % 64 = v := by omega
  rw [ev, finN, if_neg (by rw [hs]; simp [leastOf]; omega)]
  rfl
 by_cases c3 : v < 65536
 ·have e : byU v = [UInt8.ofNat (224 + v / 4096).toNat, UInt8.ofNat (128 + v / 64 % 64).toNat, UInt8.ofNat (128 + v % 64).toNat] := by
   unfold byU
   rw [bytesOf3 (by omega) c3]
   simp only [List.map_cons, List.map_nil]
   rw [show (224 + v / 4096) % 256 = 224 + v / 4096 by omega, show (128 + v / 64 % 64) % 256 = 128 + v / 64 % 64 by omega, show (128 + v % 64) % 256 = 128 + v % 64 by omega]
  rw [e, List.cons_append, List.cons_append, List.cons_append, List.nil_append]
  have a1 : (UInt8.ofNat (224 + v / 4096).toNat).toNat = (224 + v / 4096).toNat := ofNat_toNat (by omega)
  have a2 : (UInt8.ofNat (128 + v / 64 % 64).toNat).toNat = (128 + v / 64 % 64).toNat := ofNat_toNat (by omega)
  have a3 : (UInt8.ofNat (128 + v % 64).toNat).toNat = (128 + v % 64).toNat := ofNat_toNat (by omega)
  have hl : leadN (224 + v / 4096).toNat = 3 := by
   unfold leadN
   rw [if_neg (by omega), if_neg (by omega), if_neg (by omega), if_pos (by omega)]
  have hv : leadV (224 + v / 4096).toNat = ((224 + v / 4096).toNat : Int) % 16 := by
   unfold leadV
   rw [if_neg (by omega), if_neg (by omega), if_neg (by omega), if_pos (by omega)]
  rw [nextP, a1, if_neg (by rw [hl]; simp), hl, hv]
  simp only [Nat.reduceSub, tailV, a2, a3]
  rw [if_pos (by omega), if_pos (by omega)]
  have ev : (((224 + v / 4096).toNat : Int) % 16 * 64 + ((128 + v / 64 % 64).toNat : Int) % 64) * 64 + ((128 + v % 64).toNat : Int) % 64 = v := by omega
  rw [ev, finN, if_neg (by rw [hs]; simp [leastOf]; omega)]
  rfl
 ·have e : byU v = [UInt8.ofNat (240 + v / 262144).toNat, UInt8.ofNat (128 + v / 4096 % 64).toNat, UInt8.ofNat (128 + v / 64 % 64).toNat, UInt8.ofNat (128 + v % 64).toNat] := by
   unfold byU
   rw [bytesOf4 (by omega)]
   simp only [List.map_cons, List.map_nil]
   rw [show (240 + v / 262144) % 256 = 240 + v / 262144 by omega, show (128 + v / 4096 % 64) % 256 = 128 + v / 4096 % 64 by omega, show (128 + v / 64 % 64) % 256 = 128 + v / 64 % 64 by omega, show (128 + v % 64) % 256 = 128 + v % 64 by omega]
  rw [e, List.cons_append, List.cons_append, List.cons_append, List.cons_append, List.nil_append]
  have a1 : (UInt8.ofNat (240 + v / 262144).toNat).toNat = (240 + v / 262144).toNat := ofNat_toNat (by omega)
  have a2 : (UInt8.ofNat (128 + v / 4096 % 64).toNat).toNat = (128 + v / 4096 % 64).toNat := ofNat_toNat (by omega)
  have a3 : (UInt8.ofNat (128 + v / 64 % 64).toNat).toNat = (128 + v / 64 % 64).toNat := ofNat_toNat (by omega)
  have a4 : (UInt8.ofNat (128 + v % 64).toNat).toNat = (128 + v % 64).toNat := ofNat_toNat (by omega)
  have hl : leadN (240 + v / 262144).toNat = 4 := by
   unfold leadN
   rw [if_neg (by omega), if_neg (by omega), if_neg (by omega), if_neg (by omega), if_pos (by omega)]
  have hv : leadV (240 + v / 262144).toNat = ((240 + v / 262144).toNat : Int) % 8 := by
   unfold leadV
   rw [if_neg (by omega), if_neg (by omega), if_neg (by omega), if_neg (by omega), if_pos (by omega)]
  rw [nextP, a1, if_neg (by rw [hl]; simp), hl, hv]
  simp only [Nat.reduceSub, tailV, a2, a3, a4]
  rw [if_pos (by omega), if_pos (by omega), if_pos (by omega)]
  have ev : ((((240 + v / 262144).toNat : Int) % 8 * 64 + ((128 + v / 4096 % 64).toNat : Int) % 64) * 64 + ((128 + v / 64 % 64).toNat : Int) % 64) * 64 + ((128 + v % 64).toNat : Int) % 64 = v := by omega
  rw [ev, finN, if_neg (by rw [hs]; simp [leastOf]; omega)]
  rfl
theorem byU_head {v : Int} (hs : scal v = true) : ∃ c t, byU v = c :: t /\ (v < 128 -> (c.toNat : Int) = v) /\ (128 <= v -> 128 <= c.toNat) := by
 obtain ⟨h0, hm, hr⟩ := scal_cases hs
 have hn := next_byU hs []
 rw [List.append_nil] at hn
 rcases hb : byU v with _ | ⟨c, t⟩
 ·rw [hb, nextP] at hn
  have hl := bytesOf_len v
  have : (byU v).length = (bytesOf v).length := by unfold byU; simp
  rw [hb] at this
  simp at this
  rw [<- this] at hl
  split at hl <;> (try split at hl) <;> (try split at hl) <;> omega
 ·refine ⟨c, t, rfl, fun h => ?_, fun h => ?_⟩
  ·rw [byU_1 h0 h] at hb
   cases hb
   rw [ofNat_toNat (by omega)]
   omega
  ·rw [hb] at hn
   by_cases hc : c.toNat < 128
   ·rw [nextP_1 hc] at hn
    have e1 := congrArg Prod.fst hn
    simp only at e1
    omega
   ·omega
end Go.Proofs.YtdhmpakhdhdebaaGreatDoor
namespace Go.Proofs.YtdhmpakhdhdebaaGreatDoor
open Go.RowKit
set_option maxRecDepth 100000
def tagC (c : UInt8) : Bool := alphaC c || digC c || c == 45
def tagE (l : List UInt8) (i : Nat) : Nat := if _h : l.length <= i then i else if tagC (l.getD i 0) = true then tagE l (i + 1) else i
termination_by l.length - i
theorem tagE_end {l : List UInt8} {i : Nat} (h : l.length <= i) : tagE l i = i := by rw [tagE, dif_pos h]
theorem tagE_go {l : List UInt8} {i : Nat} (h : i < l.length) (hc : tagC (l.getD i 0) = true) : tagE l i = tagE l (i + 1) := by rw [tagE, dif_neg (by omega), if_pos hc]
theorem tagE_stop {l : List UInt8} {i : Nat} (h : i < l.length) (hc : tagC (l.getD i 0) = false) : tagE l i = i := by rw [tagE, dif_neg (by omega), if_neg (by rw [hc]; simp)]
theorem tagE_bound (l : List UInt8) : ∀ (k i : Nat), l.length - i <= k -> i <= l.length -> i <= tagE l i /\ tagE l i <= l.length
 | k, i, hk, hi => by
  by_cases h : l.length <= i
  ·rw [tagE_end h]; omega
  cases hc : tagC (l.getD i 0) with
  | false => rw [tagE_stop (by omega) hc]; omega
  | true =>
   rw [tagE_go (by omega) hc]
   match k, hk with
   | 0, hk => omega
   | k + 1, hk =>
    have := tagE_bound l k (i + 1) (by omega) (by omega)
    omega
def cutF (l : List UInt8) (a b : Nat) : List UInt8 := (l.drop a).take (b - a)
theorem cutF_len (l : List UInt8) (a b : Nat) : (cutF l a b).length <= l.length := by unfold cutF; simp; omega
end Go.Proofs.YtdhmpakhdhdebaaGreatDoor
namespace Go.Proofs.YtdhmpakhdhdebaaGreatDoor
open Go.RowKit
set_option maxRecDepth 100000
theorem nextP_more {r : List UInt8} (x : List UInt8) {v : Int} {n : Nat} (h : nextP r = (v, n)) (hn : n ≠ 0) : nextP (r ++ x) = (v, n) := by
 have hb := nextP_bytes h hn
 have hl := nextP_bound (r := r) (by rw [h]; exact hn)
 rw [h] at hl
 have e : r ++ x = byU v ++ (r.drop n ++ x) := by rw [hb.1, <- List.append_assoc, List.take_append_drop]
 have hlen : (byU v).length = n := by rw [hb.1, List.length_take]; simp at hl; omega
 rw [e, next_byU hb.2, hlen]
end Go.Proofs.YtdhmpakhdhdebaaGreatDoor
namespace Go.Proofs.YtdhmpakhdhdebaaGreatDoor
open Go.RowKit
set_option maxRecDepth 100000
def eolC (c : UInt8) : Bool := c == 10 || c == 13
def eolF (l : List UInt8) (i : Nat) : Nat := if _h : l.length <= i then i else if eolC (l.getD i 0) = true then i else eolF l (i + 1)
termination_by l.length - i
theorem eolF_end {l : List UInt8} {i : Nat} (h : l.length <= i) : eolF l i = i := by rw [eolF, dif_pos h]
theorem eolF_hit {l : List UInt8} {i : Nat} (h : i < l.length) (hc : eolC (l.getD i 0) = true) : eolF l i = i := by rw [eolF, dif_neg (by omega), if_pos hc]
theorem eolF_go {l : List UInt8} {i : Nat} (h : i < l.length) (hc : eolC (l.getD i 0) = false) : eolF l i = eolF l (i + 1) := by rw [eolF, dif_neg (by omega), if_neg (by rw [hc]; simp)]
theorem eolF_bound (l : List UInt8) : ∀ (k i : Nat), l.length - i <= k -> i <= l.length -> i <= eolF l i /\ eolF l i <= l.length
 | k, i, hk, hi => by
  by_cases h : l.length <= i
  ·rw [eolF_end h]; omega
  cases hc : eolC (l.getD i 0) with
  | true => rw [eolF_hit (by omega) hc]; omega
  | false =>
   rw [eolF_go (by omega) hc]
   match k, hk with
   | 0, hk => omega
   | k + 1, hk =>
    have := eolF_bound l k (i + 1) (by omega) (by omega)
    omega
theorem eolF_ge (l : List UInt8) (i : Nat) : i <= eolF l i := by
 by_cases h : i <= l.length
 ·exact (eolF_bound l l.length i (by omega) h).1
 ·rw [eolF_end (by omega)]; exact Nat.le_refl _
end Go.Proofs.YtdhmpakhdhdebaaGreatDoor
namespace Go.Proofs.YtdhmpakhdhdebaaGreatDoor
open Go.RowKit
set_option maxRecDepth 100000
structure TokL where
 kind : Int
 text : List UInt8
 loc : List UInt8
 typ : List UInt8
 at_ : Int
 fin : Int
 deriving DecidableEq
def noTok : TokL := ⟨0, [], [], [], 0, 0⟩
abbrev TokR := TokL ⊕ (Nat × Int)
def blankC (c : UInt8) : Bool := c == 32 || c == 9 || c == 13 || c == 10
def gapF (l : List UInt8) (i : Nat) : Nat := if _h : l.length <= i then i else if blankC (l.getD i 0) = true then gapF l (i + 1) else if l.getD i 0 = 35 then gapF l (eolF l (i + 1)) else i
termination_by l.length - i
decreasing_by
 ·omega
 ·have := eolF_ge l (i + 1); omega
theorem gapF_end {l : List UInt8} {i : Nat} (h : l.length <= i) : gapF l i = i := by rw [gapF, dif_pos h]
theorem gapF_blank {l : List UInt8} {i : Nat} (h : i < l.length) (hc : blankC (l.getD i 0) = true) : gapF l i = gapF l (i + 1) := by rw [gapF, dif_neg (by omega), if_pos hc]
theorem gapF_hash {l : List UInt8} {i : Nat} (h : i < l.length) (hc : l.getD i 0 = 35) : gapF l i = gapF l (eolF l (i + 1)) := by
 rw [gapF, dif_neg (by omega), if_neg (by rw [hc]; decide), if_pos hc]
theorem gapF_stop {l : List UInt8} {i : Nat} (h : i < l.length) (hc : blankC (l.getD i 0) = false) (hn : l.getD i 0 ≠ 35) : gapF l i = i := by
 rw [gapF, dif_neg (by omega), if_neg (by rw [hc]; simp), if_neg hn]
theorem gapF_bound (l : List UInt8) : ∀ (k i : Nat), l.length - i <= k -> i <= l.length -> i <= gapF l i /\ gapF l i <= l.length
 | k, i, hk, hi => by
  by_cases h : l.length <= i
  ·rw [gapF_end h]; omega
  match k, hk with
  | 0, hk => omega
  | k + 1, hk =>
   cases hc : blankC (l.getD i 0) with
   | true =>
    rw [gapF_blank (by omega) hc]
    have := gapF_bound l k (i + 1) (by omega) (by omega)
    omega
   | false =>
    by_cases h3 : l.getD i 0 = 35
    ·rw [gapF_hash (by omega) h3]
     have h1 := eolF_bound l l.length (i + 1) (by omega) (by omega)
     have := gapF_bound l k (eolF l (i + 1)) (by omega) h1.2
     omega
    ·rw [gapF_stop (by omega) hc h3]; omega
def noI : List UInt8 := [60, 34, 123, 125, 124, 94, 96]
def badI (c : UInt8) : Bool := decide (c.toNat <= 32) || noI.contains c
def scanI (l : List UInt8) (j : Nat) : Nat ⊕ Nat := if _h : l.length <= j then .inr l.length else if l.getD j 0 = 62 then .inl j else if badI (l.getD j 0) = true then .inr j else scanI l (j + 1)
termination_by l.length - j
theorem scanI_end {l : List UInt8} {i : Nat} (h : l.length <= i) : scanI l i = .inr l.length := by rw [scanI, dif_pos h]
theorem scanI_hit {l : List UInt8} {i : Nat} (h : i < l.length) (hc : l.getD i 0 = 62) : scanI l i = .inl i := by rw [scanI, dif_neg (by omega), if_pos hc]
theorem scanI_bad {l : List UInt8} {i : Nat} (h : i < l.length) (hc : l.getD i 0 ≠ 62) (hb : badI (l.getD i 0) = true) : scanI l i = .inr i := by rw [scanI, dif_neg (by omega), if_neg hc, if_pos hb]
theorem scanI_go {l : List UInt8} {i : Nat} (h : i < l.length) (hc : l.getD i 0 ≠ 62) (hb : badI (l.getD i 0) = false) : scanI l i = scanI l (i + 1) := by rw [scanI, dif_neg (by omega), if_neg hc, if_neg (by rw [hb]; simp)]
theorem scanI_bound (l : List UInt8) : ∀ (k j : Nat), l.length - j <= k -> j <= l.length -> (∀ e, scanI l j = .inl e -> j <= e /\ e < l.length) /\ (∀ p, scanI l j = .inr p -> j <= p /\ p <= l.length)
 | k, j, hk, hj => by
  by_cases h : l.length <= j
  ·rw [scanI_end h]; exact ⟨fun e h => (by cases h), fun p h => (by cases h; omega)⟩
  by_cases hc : l.getD j 0 = 62
  ·rw [scanI_hit (by omega) hc]; exact ⟨fun e h => (by cases h; omega), fun p h => (by cases h)⟩
  cases hb : badI (l.getD j 0) with
  | true => rw [scanI_bad (by omega) hc hb]; exact ⟨fun e h => (by cases h), fun p h => (by cases h; omega)⟩
  | false =>
   rw [scanI_go (by omega) hc hb]
   match k, hk with
   | 0, hk => omega
   | k + 1, hk =>
    have := scanI_bound l k (j + 1) (by omega) (by omega)
    exact ⟨fun e h => (by have := this.1 e h; omega), fun p h => (by have := this.2 p h; omega)⟩
def iriG (l : List UInt8) (i : Nat) : TokR := match scanI l (i + 1) with
 | .inr p => .inr (p, 100)
 | .inl e => match unescF 2 (cutF l (i + 1) e) 0 with
  | .inl t => .inl ⟨1, t, [], [], (i : Nat), (e + 1 : Nat)⟩
  | .inr (p, n) => .inr (i + 1 + p, n)
def threeB (l : List UInt8) (q : UInt8) (j : Nat) : Bool := decide (j + 2 < l.length) && (l.getD j 0 == q && (l.getD (j + 1) 0 == q && l.getD (j + 2) 0 == q))
def closeB (l : List UInt8) (q : UInt8) (long : Bool) (j : Nat) : Bool := if long = true then threeB l q j else l.getD j 0 == q
def scanQ (l : List UInt8) (q : UInt8) (long : Bool) (j : Nat) : Nat ⊕ Nat :=
 if _h : l.length <= j then .inr l.length
 else if closeB l q long j = true then .inl j
 else if long = false /\ eolC (l.getD j 0) = true then .inr j
 else if l.getD j 0 = 92 then (if long = false /\ j + 1 < l.length /\ eolC (l.getD (j + 1) 0) = true then .inr (j + 1) else scanQ l q long (j + 2))
 else scanQ l q long (j + 1)
termination_by l.length - j
theorem scanQ_end {l : List UInt8} {q : UInt8} {b : Bool} {j : Nat} (h : l.length <= j) : scanQ l q b j = .inr l.length := by rw [scanQ, dif_pos h]
theorem scanQ_hit {l : List UInt8} {q : UInt8} {b : Bool} {j : Nat} (h : j < l.length) (hc : closeB l q b j = true) : scanQ l q b j = .inl j := by rw [scanQ, dif_neg (by omega), if_pos hc]
theorem scanQ_eol {l : List UInt8} {q : UInt8} {j : Nat} (h : j < l.length) (hc : closeB l q false j = false) (he : eolC (l.getD j 0) = true) : scanQ l q false j = .inr j := by
 rw [scanQ, dif_neg (by omega), if_neg (by rw [hc]; simp), if_pos ⟨rfl, he⟩]
theorem scanQ_esc_eol {l : List UInt8} {q : UInt8} {j : Nat} (h : j + 1 < l.length) (hc : closeB l q false j = false) (h9 : l.getD j 0 = 92) (he : eolC (l.getD (j + 1) 0) = true) : scanQ l q false j = .inr (j + 1) := by
 rw [scanQ, dif_neg (by omega), if_neg (by rw [hc]; simp), if_neg (by rw [h9]; simp [eolC]), if_pos h9, if_pos ⟨rfl, h, he⟩]
theorem scanQ_esc {l : List UInt8} {q : UInt8} {b : Bool} {j : Nat} (h : j < l.length) (hc : closeB l q b j = false) (h9 : l.getD j 0 = 92) (he : b = true \/ l.length <= j + 1 \/ eolC (l.getD (j + 1) 0) = false) : scanQ l q b j = scanQ l q b (j + 2) := by
 rw [scanQ, dif_neg (by omega), if_neg (by rw [hc]; simp), if_neg (by rw [h9]; simp [eolC]), if_pos h9, if_neg]
 rintro ⟨h1, h2, h3⟩
 rcases he with rfl | he | he
 ·cases h1
 ·omega
 ·rw [he] at h3; cases h3
theorem scanQ_go {l : List UInt8} {q : UInt8} {b : Bool} {j : Nat} (h : j < l.length) (hc : closeB l q b j = false) (h9 : l.getD j 0 ≠ 92) (he : b = true \/ eolC (l.getD j 0) = false) : scanQ l q b j = scanQ l q b (j + 1) := by
 rw [scanQ, dif_neg (by omega), if_neg (by rw [hc]; simp), if_neg, if_neg h9]
 rintro ⟨h1, h3⟩
 rcases he with rfl | he
 ·cases h1
 ·rw [he] at h3; cases h3
theorem scanQ_bound (l : List UInt8) (q : UInt8) (b : Bool) : ∀ (k j : Nat), l.length - j <= k -> (∀ e, scanQ l q b j = .inl e -> j <= e /\ e < l.length /\ closeB l q b e = true) /\ (∀ p, scanQ l q b j = .inr p -> p <= l.length)
 | k, j, hk => by
  by_cases h : l.length <= j
  ·rw [scanQ_end h]; exact ⟨fun e h => (by cases h), fun p h => (by cases h; omega)⟩
  cases hc : closeB l q b j with
  | true => rw [scanQ_hit (by omega) hc]; exact ⟨fun e h => (by cases h; exact ⟨Nat.le_refl _, by omega, hc⟩), fun p h => (by cases h)⟩
  | false =>
   match k, hk with
   | 0, hk => omega
   | k + 1, hk =>
    by_cases h9 : l.getD j 0 = 92
    ·by_cases he : b = true \/ l.length <= j + 1 \/ eolC (l.getD (j + 1) 0) = false
     ·rw [scanQ_esc (by omega) hc h9 he]
      have := scanQ_bound l q b k (j + 2) (by omega)
      exact ⟨fun e h => (by have := this.1 e h; exact ⟨by omega, this.2⟩), this.2⟩
     ·simp only [not_or, Bool.not_eq_true, Bool.not_eq_false] at he
      obtain ⟨rfl, h1, h2⟩ := he
      rw [scanQ_esc_eol (by omega) hc h9 h2]
      exact ⟨fun e h => (by cases h), fun p h => (by cases h; omega)⟩
    ·by_cases he : b = true \/ eolC (l.getD j 0) = false
     ·rw [scanQ_go (by omega) hc h9 he]
      have := scanQ_bound l q b k (j + 1) (by omega)
      exact ⟨fun e h => (by have := this.1 e h; exact ⟨by omega, this.2⟩), this.2⟩
     ·simp only [not_or, Bool.not_eq_true, Bool.not_eq_false] at he
      obtain ⟨rfl, h1⟩ := he
      rw [scanQ_eol (by omega) hc h1]
      exact ⟨fun e h => (by cases h), fun p h => (by cases h; omega)⟩
def markN (long : Bool) : Nat := if long = true then 3 else 1
def quoteG (l : List UInt8) (i : Nat) : TokR := match scanQ l (l.getD i 0) (threeB l (l.getD i 0) i) (i + markN (threeB l (l.getD i 0) i)) with
 | .inr p => .inr (p, 100)
 | .inl e => match unescF 1 (cutF l (i + markN (threeB l (l.getD i 0) i)) e) 0 with
  | .inl t => .inl ⟨4, t, [], [], (i : Nat), (e + markN (threeB l (l.getD i 0) i) : Nat)⟩
  | .inr (p, n) => .inr (i + markN (threeB l (l.getD i 0) i) + p, n)
def greatC (c : UInt8) : UInt8 := if 97 <= c.toNat /\ c.toNat <= 122 then c - 32 else c
def greatL (l : List UInt8) : List UInt8 := l.map greatC
def prefixW : List UInt8 := [112, 114, 101, 102, 105, 120]
def baseW : List UInt8 := [98, 97, 115, 101]
def graphW : List UInt8 := [103, 114, 97, 112, 104]
def atG (l : List UInt8) (i : Nat) : TokR :=
 if cutF l (i + 1) (tagE l (i + 1)) = prefixW \/ cutF l (i + 1) (tagE l (i + 1)) = baseW then .inl ⟨7, 64 :: cutF l (i + 1) (tagE l (i + 1)), [], [], (i : Nat), (tagE l (i + 1) : Nat)⟩
 else match tagF (cutF l (i + 1) (tagE l (i + 1))) with
  | none => .inr (i + 1, 61)
  | some _ => .inl ⟨5, lowL (cutF l (i + 1) (tagE l (i + 1))), [], [], (i : Nat), (tagE l (i + 1) : Nat)⟩
def digE (l : List UInt8) (i : Nat) : Nat := if _h : l.length <= i then i else if digC (l.getD i 0) = true then digE l (i + 1) else i
termination_by l.length - i
theorem digE_end {l : List UInt8} {i : Nat} (h : l.length <= i) : digE l i = i := by rw [digE, dif_pos h]
theorem digE_go {l : List UInt8} {i : Nat} (h : i < l.length) (hc : digC (l.getD i 0) = true) : digE l i = digE l (i + 1) := by rw [digE, dif_neg (by omega), if_pos hc]
theorem digE_stop {l : List UInt8} {i : Nat} (h : i < l.length) (hc : digC (l.getD i 0) = false) : digE l i = i := by rw [digE, dif_neg (by omega), if_neg (by rw [hc]; simp)]
theorem digE_bound (l : List UInt8) : ∀ (k i : Nat), l.length - i <= k -> i <= digE l i /\ (i <= l.length -> digE l i <= l.length) /\ (l.length <= i -> digE l i = i)
 | k, i, hk => by
  by_cases h : l.length <= i
  ·rw [digE_end h]; exact ⟨Nat.le_refl _, id, fun _ => rfl⟩
  cases hc : digC (l.getD i 0) with
  | false => rw [digE_stop (by omega) hc]; exact ⟨Nat.le_refl _, id, fun _ => rfl⟩
  | true =>
   rw [digE_go (by omega) hc]
   match k, hk with
   | 0, hk => omega
   | k + 1, hk =>
    have := digE_bound l k (i + 1) (by omega)
    omega
theorem digE_ge (l : List UInt8) (i : Nat) : i <= digE l i := (digE_bound l l.length i (by omega)).1
theorem digE_le {l : List UInt8} {i : Nat} (h : i <= l.length) : digE l i <= l.length := (digE_bound l l.length i (by omega)).2.1 h
def signC (c : UInt8) : Bool := c == 43 || c == 45
def expC (c : UInt8) : Bool := c == 101 || c == 69
def expD (l : List UInt8) (i : Nat) : Nat := if i + 1 < l.length /\ signC (l.getD (i + 1) 0) = true then i + 2 else i + 1
def powE (l : List UInt8) (i : Nat) : Nat := if l.length <= i \/ expC (l.getD i 0) = false then i else if digE l (expD l i) = expD l i then i else digE l (expD l i)
theorem powE_no {l : List UInt8} {i : Nat} (h : l.length <= i \/ expC (l.getD i 0) = false) : powE l i = i := by unfold powE; rw [if_pos h]
theorem powE_none {l : List UInt8} {i : Nat} (h : digE l (expD l i) = expD l i) : powE l i = i := by
 unfold powE
 split
 all_goals first | rfl | rw [if_pos h]
theorem powE_some {l : List UInt8} {i : Nat} (h1 : i < l.length) (h2 : expC (l.getD i 0) = true) (h : digE l (expD l i) ≠ expD l i) : powE l i = digE l (expD l i) := by
 unfold powE; rw [if_neg (by rw [h2]; simp; omega), if_neg h]
theorem expD_gt (l : List UInt8) (i : Nat) : i < expD l i /\ expD l i <= i + 2 /\ (i < l.length -> expD l i <= l.length) := by unfold expD; split <;> omega
theorem powE_bound (l : List UInt8) (i : Nat) : i <= powE l i /\ (i <= l.length -> powE l i <= l.length) := by
 unfold powE
 have h1 := expD_gt l i
 have h2 := digE_bound l l.length (expD l i) (by omega)
 split
 ·omega
 ·split
  ·omega
  ·next hn _ => simp only [not_or] at hn; omega
def integerN : List UInt8 := [105, 110, 116, 101, 103, 101, 114]
def decimalN : List UInt8 := [100, 101, 99, 105, 109, 97, 108]
def doubleN : List UInt8 := [100, 111, 117, 98, 108, 101]
def numD (l : List UInt8) (i : Nat) : Nat := if i < l.length /\ signC (l.getD i 0) = true then i + 1 else i
def numG (l : List UInt8) (i : Nat) : Nat × List UInt8 :=
 let f := numD l i
 let a := digE l f
 let b := digE l (a + 1)
 let dot := decide (a < l.length) && l.getD a 0 == 46
 if dot = true /\ (f < a \/ a + 1 < b) /\ b < powE l b then (powE l b, doubleN)
 else if f < a /\ a < powE l a then (powE l a, doubleN)
 else if dot = true /\ a + 1 < b then (b, decimalN)
 else if f < a then (a, integerN)
 else (i, [])
def xsdW : List UInt8 := [104, 116, 116, 112, 58, 47, 47, 119, 119, 119, 46, 119, 51, 46, 111, 114, 103, 47, 50, 48, 48, 49, 47, 88, 77, 76, 83, 99, 104, 101, 109, 97, 35]
def wordE (l : List UInt8) (dots : Bool) (i : Nat) : Nat := if _h : (nextAt l i).2 = 0 \/ (followB (nextAt l i).1 = false /\ ¬ (dots = true /\ (nextAt l i).1 = 46)) then i else wordE l dots (i + (nextAt l i).2)
termination_by l.length - i
decreasing_by
 have hn : (nextAt l i).2 ≠ 0 := fun x => _h (Or.inl x)
 have := nextAt_bound (l := l) (i := (i : Int)) (v := (nextAt l i).1) (n := (nextAt l i).2) rfl hn
 omega
theorem wordE_stop {l : List UInt8} {d : Bool} {i n : Nat} {v : Int} (h : nextAt l i = (v, n)) (hs : n = 0 \/ (followB v = false /\ ¬ (d = true /\ v = 46))) : wordE l d i = i := by rw [wordE, h, dif_pos hs]
theorem wordE_go {l : List UInt8} {d : Bool} {i n : Nat} {v : Int} (h : nextAt l i = (v, n)) (hs : ¬ (n = 0 \/ (followB v = false /\ ¬ (d = true /\ v = 46)))) : wordE l d i = wordE l d (i + n) := by rw [wordE, h, dif_neg hs]
theorem wordE_bound (l : List UInt8) (d : Bool) : ∀ (k i : Nat), l.length - i <= k -> i <= l.length -> i <= wordE l d i /\ wordE l d i <= l.length
 | k, i, hk, hi => by
  obtain ⟨v, n, hq⟩ : ∃ v n, nextAt l (i : Int) = (v, n) := ⟨_, _, rfl⟩
  by_cases hs : n = 0 \/ (followB v = false /\ ¬ (d = true /\ v = 46))
  ·rw [wordE_stop hq hs]; omega
  ·have hn : n ≠ 0 := fun x => hs (.inl x)
   have hb := nextAt_bound hq hn
   rw [wordE_go hq hs]
   match k, hk with
   | 0, hk => omega
   | k + 1, hk =>
    have := wordE_bound l d k (i + n) (by omega) (by omega)
    omega
def prefOk (l : List UInt8) : Bool := decide (l = []) || wholeR baseB l
def prefE (l : List UInt8) (i : Nat) : Option Nat := if wordE l true i < l.length /\ l.getD (wordE l true i) 0 = 58 /\ prefOk (cutF l i (wordE l true i)) = true then some (wordE l true i) else none
def mayP (p : List UInt8 × Nat × Int) (first : Bool) : Bool := !(p.2.1 == 0) && (p.2.2 == -1 || (decide (0 <= p.2.2) && standsB p.2.2 first false))
def lastP (p : List UInt8 × Nat × Int) (first : Bool) : Bool := p.2.2 == -1 || first || standsB p.2.2 false true
theorem pieceF_bound {l : List UInt8} {j : Nat} {b : Bool} (h : mayP (pieceF l j) b = true) : 0 < (pieceF l j).2.1 /\ j + (pieceF l j).2.1 <= l.length := by
 unfold mayP at h
 unfold pieceF at h ⊢
 obtain ⟨v, m, hq⟩ : ∃ v m, nextAt l (j : Int) = (v, m) := ⟨_, _, rfl⟩
 rw [hq] at h ⊢
 simp only at h ⊢
 split
 ·next hp => have := percB_len hp; simp at this; simp; omega
 ·split
  ·next he =>
   obtain ⟨b, t', e, _⟩ := esc2_front he
   have := congrArg List.length e
   simp at this
   simp; omega
  ·split
   ·next hp he hm => rw [if_neg hp, if_neg he, if_pos hm] at h; simp at h
   ·next hp he hm =>
    have hb := nextAt_bound hq hm
    split
    ·next h3 => rw [if_neg hp, if_neg he, if_neg hm, if_pos h3] at h; simp at h
    ·simp; omega
def locG (l : List UInt8) (a i : Nat) (says : List UInt8) (e : Nat) (kept : List UInt8) : Nat × List UInt8 :=
 if _h : mayP (pieceF l i) (decide (i = a)) = true then locG l a (i + (pieceF l i).2.1) (says ++ (pieceF l i).1) (if lastP (pieceF l i) (decide (i = a)) = true then i + (pieceF l i).2.1 else e) (if lastP (pieceF l i) (decide (i = a)) = true then says ++ (pieceF l i).1 else kept)
 else (e, kept)
termination_by l.length - i
decreasing_by have := pieceF_bound _h; omega
theorem locG_stop {l : List UInt8} {a i e : Nat} {says kept : List UInt8} (h : mayP (pieceF l i) (decide (i = a)) = false) : locG l a i says e kept = (e, kept) := by rw [locG, dif_neg (by rw [h]; simp)]
theorem locG_go {l : List UInt8} {a i e : Nat} {says kept : List UInt8} (h : mayP (pieceF l i) (decide (i = a)) = true) : locG l a i says e kept = locG l a (i + (pieceF l i).2.1) (says ++ (pieceF l i).1) (if lastP (pieceF l i) (decide (i = a)) = true then i + (pieceF l i).2.1 else e) (if lastP (pieceF l i) (decide (i = a)) = true then says ++ (pieceF l i).1 else kept) := by
 rw [locG, dif_pos h]
def localG (l : List UInt8) (i : Nat) : Nat × List UInt8 := locG l i i [] i []
def wordG (l : List UInt8) (i : Nat) : TokR :=
 if lowL (cutF l i (wordE l false i)) = prefixW \/ lowL (cutF l i (wordE l false i)) = baseW \/ lowL (cutF l i (wordE l false i)) = graphW then .inl ⟨7, greatL (cutF l i (wordE l false i)), [], [], (i : Nat), (wordE l false i : Nat)⟩
 else if cutF l i (wordE l false i) = [97] \/ cutF l i (wordE l false i) = [116, 114, 117, 101] \/ cutF l i (wordE l false i) = [102, 97, 108, 115, 101] then .inl ⟨7, cutF l i (wordE l false i), [], [], (i : Nat), (wordE l false i : Nat)⟩
 else .inr (i, 100)
def nameG (l : List UInt8) (i : Nat) : TokR := match prefE l i with
 | none => wordG l i
 | some e => .inl ⟨2, cutF l i e, (localG l (e + 1)).2, [], (i : Nat), ((localG l (e + 1)).1 : Nat)⟩
def labelG (l : List UInt8) (i : Nat) : TokR :=
 if l.length <= i + 1 \/ l.getD (i + 1) 0 ≠ 58 then .inr (i, 100)
 else if runF labelB l (i + 2 : Nat) = 0 then .inr (i + 2, 60)
 else .inl ⟨3, cutF l (i + 2) (i + 2 + runF labelB l (i + 2 : Nat)), [], [], (i : Nat), (i + 2 + runF labelB l (i + 2 : Nat) : Nat)⟩
def signsW : List UInt8 := [46, 59, 44, 91, 93, 40, 41, 123, 125]
def tokG (l : List UInt8) (i : Nat) : TokR :=
 if l.getD i 0 = 60 then iriG l i
 else if baseB (nextAt l i).1 = true \/ l.getD i 0 = 58 then nameG l i
 else if l.getD i 0 = 95 then labelG l i
 else if l.getD i 0 = 34 \/ l.getD i 0 = 39 then quoteG l i
 else if l.getD i 0 = 64 then atG l i
 else if i < (numG l i).1 then .inl ⟨6, cutF l i (numG l i).1, [], xsdW ++ (numG l i).2, (i : Nat), ((numG l i).1 : Nat)⟩
 else if l.getD i 0 = 94 /\ i + 1 < l.length /\ l.getD (i + 1) 0 = 94 then .inl ⟨8, [94, 94], [], [], (i : Nat), (i + 2 : Nat)⟩
 else if signsW.contains (l.getD i 0) = true then .inl ⟨8, [l.getD i 0], [], [], (i : Nat), (i + 1 : Nat)⟩
 else .inr (i, 100)
def nextG (l : List UInt8) (i : Nat) : TokR :=
 if gapF l i = l.length then .inl ⟨0, [], [], [], (gapF l i : Nat), (gapF l i : Nat)⟩
 else match tokG l (gapF l i) with
  | .inr f => .inr f
  | .inl t => if 65536 < t.text.length \/ 65536 < t.loc.length then .inr (gapF l i, 2) else .inl t
def stepG (l : List UInt8) (less : Bool) (i : Nat) : TokR := match nextG l i with
 | .inl t => if less = true /\ t.kind = 0 then .inr (l.length, 40) else .inl t
 | .inr f => if less = true /\ f.1 = l.length then .inr (l.length, 40) else .inr f
end Go.Proofs.YtdhmpakhdhdebaaGreatDoor
namespace Go.Proofs.YtdhmpakhdhdebaaGreatDoor
open Go.RowKit
set_option maxRecDepth 100000
abbrev okR (x : List UInt8 ⊕ (Nat × Int)) : Bool := match x with
 | .inl _ => true
 | .inr _ => false
def locOk (t : List UInt8) : Bool := okR (locF t 0)
def tryT (t : List UInt8) (first : Bool) : List UInt8 := if first = false /\ t.headD 0 ≠ 37 /\ t.headD 0 ≠ 92 then 97 :: t else t
def pcF (l : List UInt8) (j : Nat) (first : Bool) (n : Nat) : Nat × Bool :=
 if 4 < n \/ l.length < j + n then (0, false)
 else if n = 1 /\ l.getD j 0 = 46 then (if first = true then 0 else 1, !first)
 else if locOk (tryT ((l.drop j).take n) first) = true then (n, false)
 else pcF l j first (n + 1)
termination_by 5 - n
theorem pcF_out {l : List UInt8} {j n : Nat} {f : Bool} (h : 4 < n \/ l.length < j + n) : pcF l j f n = (0, false) := by rw [pcF, if_pos h]
theorem pcF_dot {l : List UInt8} {j : Nat} {f : Bool} (h : j < l.length) (hc : l.getD j 0 = 46) : pcF l j f 1 = (if f = true then 0 else 1, !f) := by rw [pcF, if_neg (by omega), if_pos ⟨rfl, hc⟩]
theorem pcF_ok {l : List UInt8} {j n : Nat} {f : Bool} (h : n <= 4 /\ j + n <= l.length) (hc : ¬ (n = 1 /\ l.getD j 0 = 46)) (ho : locOk (tryT ((l.drop j).take n) f) = true) : pcF l j f n = (n, false) := by rw [pcF, if_neg (by omega), if_neg hc, if_pos ho]
theorem pcF_go {l : List UInt8} {j n : Nat} {f : Bool} (h : n <= 4 /\ j + n <= l.length) (hc : ¬ (n = 1 /\ l.getD j 0 = 46)) (ho : locOk (tryT ((l.drop j).take n) f) = false) : pcF l j f n = pcF l j f (n + 1) := by
 rw [pcF, if_neg (by omega), if_neg hc, if_neg (by rw [ho]; simp)]
theorem percB_take {r : List UInt8} {n : Nat} (h : percB (r.take n) = true) : percB r = true := by
 match r, n, h with
 | [], _, h => simp [percB] at h
 | [_], 0, h => simp [percB] at h
 | [_], n + 1, h => simp [percB] at h
 | [_, _], 0, h => simp [percB] at h
 | [_, _], 1, h => simp [percB] at h
 | [_, _], n + 2, h => simp [percB] at h
 | _ :: _ :: _ :: _, 0, h => simp [percB] at h
 | _ :: _ :: _ :: _, 1, h => simp [percB] at h
 | _ :: _ :: _ :: _, 2, h => simp [percB] at h
 | _ :: _ :: _ :: _, n + 3, h => exact h
theorem esc2_take {r : List UInt8} {n : Nat} (h : esc2 (r.take n) = true) : esc2 r = true := by
 match r, n, h with
 | [], _, h => simp [esc2] at h
 | [_], 0, h => simp [esc2] at h
 | [_], n + 1, h => simp [esc2] at h
 | _ :: _ :: _, 0, h => simp [esc2] at h
 | _ :: _ :: _, 1, h => simp [esc2] at h
 | _ :: _ :: _, n + 2, h => exact h
theorem percB_take3 {r : List UInt8} (h : percB r = true) : percB (r.take 3) = true := by
 match r, h with
 | _ :: _ :: _ :: _, h => exact h
 | [], h => cases h
 | [_], h => cases h
 | [_, _], h => cases h
theorem esc2_take2 {r : List UInt8} (h : esc2 r = true) : esc2 (r.take 2) = true := by
 match r, h with
 | _ :: _ :: _, h => exact h
 | [], h => cases h
 | [_], h => cases h
theorem percB_head {r : List UInt8} (h : r.headD 0 ≠ 37) : percB r = false := by
 cases hp : percB r with
 | false => rfl
 | true => obtain ⟨t, rfl⟩ := percB_front hp; exact absurd rfl h
theorem esc2_head {r : List UInt8} (h : r.headD 0 ≠ 92) : esc2 r = false := by
 cases hp : esc2 r with
 | false => rfl
 | true => obtain ⟨b, t, rfl, _⟩ := esc2_front hp; exact absurd rfl h
theorem nextP_short {r : List UInt8} {v : Int} {m : Nat} (h : nextP r = (v, m)) {n : Nat} (hn : n < m \/ m = 0) : (nextP (r.take n)).2 = 0 := by
 obtain ⟨v', m', h'⟩ : ∃ v' m', nextP (r.take n) = (v', m') := ⟨_, _, rfl⟩
 rw [h']
 by_cases hm : m' = 0
 ·exact hm
 ·exfalso
  have h2 := nextP_more (r.drop n) h' hm
  rw [List.take_append_drop, h] at h2
  have hb := (nextP_bound (r := r.take n) (by rw [h']; exact hm)).1
  rw [h'] at hb
  simp at hb
  cases h2
  omega
theorem nextP_long {r : List UInt8} {v : Int} {m n : Nat} (h : nextP r = (v, m)) (hm : m ≠ 0) (hn : m <= n) : nextP (r.take n) = (v, m) := by
 obtain ⟨h1, h2⟩ := nextP_bytes h hm
 have hb := (nextP_bound (r := r) (by rw [h]; exact hm)).1
 rw [h] at hb
 have := next_byU h2 ((r.take n).drop m)
 rw [h1, show r.take m ++ (r.take n).drop m = r.take n from by
  rw [show r.take m = (r.take n).take m by rw [List.take_take, Nat.min_eq_left hn], List.take_append_drop]] at this
 rw [this]
 simp at hb ⊢
 omega
theorem stepL_plain {T u : List UInt8} {i : Nat} (hd : T.drop i = u) (h1 : u.headD 0 ≠ 37) (h2 : u.headD 0 ≠ 92) {v : Int} {m : Nat} (h : nextP u = (v, m)) :
  stepL T i = if m = 0 then .inr 40 else if standsB v (decide (i = 0)) (decide (i + m = T.length)) = true then .inl (u.take m, m) else .inr 62 := by
 unfold stepL
 rw [nextAt_nat, hd, percB_head h1, esc2_head h2, h]
 simp only [Bool.false_eq_true, if_false]
 by_cases hm : m = 0
 ·rw [if_pos hm, if_pos hm]
 ·rw [if_neg hm, if_neg hm, if_neg]
  have hu : u ≠ [] := fun e => by subst e; cases h; exact hm rfl
  obtain ⟨c, t, rfl⟩ := List.exists_cons_of_ne_nil hu
  have key : ∀ k : UInt8, k.toNat < 128 -> v = (k.toNat : Int) -> c = k := fun k hk hv => by
   have := nextAt_head (l := T) (j := i) (c := c) (t := t) (v := v) (n := m) (by rw [nextAt_nat, hd]; exact h) hm (by omega) hd
   exact UInt8.toNat_inj.1 (by omega)
  rintro (hv | hv)
  ·exact h1 (key 37 (by decide) hv)
  ·exact h2 (key 92 (by decide) hv)
theorem stepL_a (t : List UInt8) : stepL (97 :: t) 0 = .inl ([97], 1) := by
 rw [stepL_plain (u := 97 :: t) rfl (by show (97 : UInt8) ≠ 37; decide) (by show (97 : UInt8) ≠ 92; decide) (v := 97) (m := 1) (nextP_1 (by decide)), if_neg (by decide), if_pos]
 ·rfl
 ·cases decide (0 + 1 = (97 :: t).length) <;> decide
theorem locOk_a (t : List UInt8) : locOk (97 :: t) = okR (locF (97 :: t) 1) := by
 unfold locOk
 rw [locF_step (by simp) (stepL_a t)]
 cases locF (97 :: t) (0 + 1) <;> rfl
theorem locOk_bad {t : List UInt8} {e : Int} (h : 0 < t.length) (hs : stepL t 0 = .inr e) : locOk t = false := by
 unfold locOk; rw [locF_bad h hs]
theorem locOk_all {t p : List UInt8} {n : Nat} (h : 0 < t.length) (hs : stepL t 0 = .inl (p, n)) (hn : t.length <= n) : locOk t = true := by
 unfold locOk; rw [locF_step h hs, locF_end (by omega)]; rfl
theorem standsB_first (v : Int) (b c : Bool) : standsB v true b = standsB v true c := by unfold standsB; rfl
theorem standsB_dot {v : Int} (h : v ≠ 46) : standsB v false false = standsB v false true := by unfold standsB; simp [decide_eq_false h]
theorem headD_take {r : List UInt8} {n : Nat} (h : 0 < n) : (r.take n).headD 0 = r.headD 0 := by
 cases r with
 | nil => simp
 | cons c t => obtain ⟨n, rfl⟩ : ∃ k, n = k + 1 := ⟨n - 1, by omega⟩; rfl
theorem ok_plain {r : List UInt8} {n : Nat} (f : Bool) (hn : 0 < n) (hl : n <= r.length) (h1 : r.headD 0 ≠ 37) (h2 : r.headD 0 ≠ 92) {v : Int} {m : Nat} (h : nextP r = (v, m)) (hv : f = false -> v ≠ 46) :
  locOk (tryT (r.take n) f) = (!(m == 0) && (decide (n = m) && standsB v f true)) \/ (m ≠ 0 /\ m < n /\ standsB v f true = true) := by
 have g1 : (r.take n).headD 0 ≠ 37 := by rw [headD_take hn]; exact h1
 have g2 : (r.take n).headD 0 ≠ 92 := by rw [headD_take hn]; exact h2
 have hlen : (r.take n).length = n := by simp; omega
 obtain ⟨v', m', h'⟩ : ∃ v' m', nextP (r.take n) = (v', m') := ⟨_, _, rfl⟩
 by_cases hs : n < m \/ m = 0
 ·left
  have h0 := nextP_short h hs
  rw [h'] at h0
  simp only at h0
  subst h0
  have hr : (!(m == 0) && (decide (n = m) && standsB v f true)) = false := by
   rcases hs with hs | rfl
   ·rw [decide_eq_false (by omega)]; simp
   ·rfl
  rw [hr]
  cases f with
  | true =>
   unfold tryT; rw [if_neg (by simp)]
   have hst := stepL_plain (T := r.take n) (i := 0) rfl g1 g2 h'
   rw [if_pos rfl] at hst
   exact locOk_bad (by omega) hst
  | false =>
   unfold tryT; rw [if_pos ⟨rfl, g1, g2⟩, locOk_a]
   have hst := stepL_plain (T := 97 :: r.take n) (i := 1) (u := r.take n) rfl g1 g2 h'
   rw [if_pos rfl] at hst
   rw [locF_bad (by simp; omega) hst]
 ·have hm : m ≠ 0 := fun e => hs (.inr e)
  have h3 := nextP_long h hm (n := n) (by omega)
  rw [h'] at h3
  obtain ⟨rfl, rfl⟩ := Prod.mk.inj h3
  by_cases hst : standsB v' f true = true
  ·by_cases he : n = m'
   ·left
    rw [hst, decide_eq_true he, show (m' == 0) = false from beq_eq_false_iff_ne.2 hm]
    show _ = true
    cases f with
    | true =>
     unfold tryT; rw [if_neg (by simp)]
     have hs := stepL_plain (T := r.take n) (i := 0) rfl g1 g2 h'
     rw [if_neg hm, if_pos (by rw [show decide (0 = 0) = true from rfl, standsB_first v' _ true]; exact hst)] at hs
     exact locOk_all (by omega) hs (by omega)
    | false =>
     unfold tryT; rw [if_pos ⟨rfl, g1, g2⟩, locOk_a]
     have hs := stepL_plain (T := 97 :: r.take n) (i := 1) (u := r.take n) rfl g1 g2 h'
     rw [if_neg hm, decide_eq_false (by decide), decide_eq_true (by simp; omega), if_pos hst] at hs
     rw [locF_step (by simp; omega) hs, locF_end (by simp; omega)]
     rfl
   ·right
    exact ⟨hm, by omega, hst⟩
  ·left
   rw [Bool.not_eq_true] at hst
   rw [hst, Bool.and_false, Bool.and_false]
   cases f with
   | true =>
    unfold tryT; rw [if_neg (by simp)]
    have hs := stepL_plain (T := r.take n) (i := 0) rfl g1 g2 h'
    rw [if_neg hm, if_neg (by rw [show decide (0 = 0) = true from rfl, standsB_first v' _ true, hst]; simp)] at hs
    exact locOk_bad (by omega) hs
   | false =>
    unfold tryT; rw [if_pos ⟨rfl, g1, g2⟩, locOk_a]
    have hs := stepL_plain (T := 97 :: r.take n) (i := 1) (u := r.take n) rfl g1 g2 h'
    have hb : ∀ b, standsB v' false b = false := fun b => by
     cases b with
     | true => exact hst
     | false => rw [standsB_dot (hv rfl)]; exact hst
    rw [if_neg hm, show decide (1 = 0) = false from rfl, hb, if_neg (by simp)] at hs
    rw [locF_bad (by simp; omega) hs]
theorem ok_sign {r : List UInt8} {n : Nat} (f : Bool) (hn : 0 < n) (hl : n <= r.length) (h1 : r.headD 0 = 37 \/ r.headD 0 = 92) (hp : percB (r.take n) = false) (he : esc2 (r.take n) = false) : locOk (tryT (r.take n) f) = false := by
 obtain ⟨c, t, rfl⟩ : ∃ c t, r = c :: t := by cases r with
  | nil => simp at hl; omega
  | cons c t => exact ⟨c, t, rfl⟩
 obtain ⟨n, rfl⟩ : ∃ k, n = k + 1 := ⟨n - 1, by omega⟩
 have hc : c = 37 \/ c = 92 := h1
 have ht : tryT ((c :: t).take (n + 1)) f = c :: t.take n := by
  unfold tryT
  rw [if_neg]
  ·rfl
  ·rintro ⟨_, h3, h4⟩
   rcases hc with rfl | rfl
   ·exact h3 rfl
   ·exact h4 rfl
 rw [ht]
 have hs : stepL (c :: t.take n) 0 = .inr 62 := by
  unfold stepL
  rw [nextAt_nat, List.drop_zero, show percB (c :: t.take n) = false from hp, show esc2 (c :: t.take n) = false from he, nextP_1 (by rcases hc with rfl | rfl <;> decide)]
  simp only [Bool.false_eq_true, if_false, Nat.succ_ne_zero]
  rw [if_pos]
  rcases hc with rfl | rfl
  ·exact .inl rfl
  ·exact .inr rfl
 exact locOk_bad (by simp) hs
def pcV (p : List UInt8 × Nat × Int) (first : Bool) : Nat × Bool := if mayP p first = true then (p.2.1, decide (p.2.2 = 46)) else (0, false)
theorem pcF_none {l : List UInt8} {j : Nat} {f : Bool} (h46 : l.getD j 0 ≠ 46) : ∀ (k n : Nat), 5 - n <= k -> 0 < n -> (∀ m, n <= m -> m <= 4 -> j + m <= l.length -> locOk (tryT ((l.drop j).take m) f) = false) -> pcF l j f n = (0, false)
 | k, n, hk, hn, h => by
  by_cases ho : 4 < n \/ l.length < j + n
  ·exact pcF_out ho
  ·rw [pcF_go (by omega) (fun x => h46 x.2) (h n (Nat.le_refl _) (by omega) (by omega))]
   match k, hk with
   | 0, hk => omega
   | k + 1, hk => exact pcF_none h46 k (n + 1) (by omega) (by omega) (fun m h1 h2 h3 => h m (by omega) h2 h3)
theorem pcF_first {l : List UInt8} {j N : Nat} {f : Bool} (h46 : l.getD j 0 ≠ 46) (hN : N <= 4 /\ j + N <= l.length) (ho : locOk (tryT ((l.drop j).take N) f) = true) : ∀ (k n : Nat), N - n <= k -> 0 < n -> n <= N -> (∀ m, n <= m -> m < N -> locOk (tryT ((l.drop j).take m) f) = false) -> pcF l j f n = (N, false)
 | k, n, hk, hn, hle, h => by
  by_cases he : n = N
  ·subst he
   exact pcF_ok hN (fun x => h46 x.2) ho
  ·rw [pcF_go (by omega) (fun x => h46 x.2) (h n (Nat.le_refl _) (by omega))]
   match k, hk with
   | 0, hk => omega
   | k + 1, hk => exact pcF_first h46 hN ho k (n + 1) (by omega) (by omega) (by omega) (fun m h1 h2 => h m (by omega) h2)
theorem nextP_le4 {r : List UInt8} {v : Int} {m : Nat} (h : nextP r = (v, m)) : m <= 4 := by
 cases r with
 | nil => cases h; omega
 | cons c t =>
  have hl := leadN_cases c.toNat
  rw [nextP] at h
  split at h
  ·cases h; omega
  ·cases ho : tailV (leadV c.toNat) t (leadN c.toNat - 1) with
   | none => rw [ho] at h; cases h; omega
   | some x =>
    rw [ho, finN] at h
    split at h
    ·cases h; omega
    ·cases h; omega
theorem piece_eq (l : List UInt8) (j : Nat) (f : Bool) (hj : j < l.length) : pcF l j f 1 = pcV (pieceF l j) f := by
 have hcons : ∃ c t, l.drop j = c :: t /\ l.getD j 0 = c := by
  refine ⟨l[j], l.drop (j + 1), List.drop_eq_getElem_cons hj, by simp [List.getD, hj]⟩
 obtain ⟨c, t, hd, hg⟩ := hcons
 have hlen : t.length + 1 = l.length - j := by have := congrArg List.length hd; simp at this; omega
 by_cases hp : percB (l.drop j) = true
 ·have hpf : pieceF l j = ((l.drop j).take 3, 3, -1) := by unfold pieceF; rw [if_pos hp]
  have h3 := percB_len hp
  obtain ⟨t', ht'⟩ := percB_front hp
  have hc : c = 37 := by rw [hd] at ht'; cases ht'; rfl
  simp at h3
  have hv : pcV (pieceF l j) f = (3, false) := by rw [hpf]; unfold pcV mayP; simp
  rw [hv]
  refine pcF_first (by rw [hg, hc]; decide) (by omega) ?_ 2 1 (by omega) (by omega) (by omega) (fun m h1 h2 => ?_)
  ·have hT : tryT ((l.drop j).take 3) f = (l.drop j).take 3 := by
    unfold tryT; rw [if_neg]; rintro ⟨_, h4, _⟩; exact h4 (by rw [hd, hc]; rfl)
   rw [hT]
   refine locOk_all (by simp; omega) (p := ((l.drop j).take 3).take 3) (n := 3) ?_ (by simp; omega)
   unfold stepL
   rw [List.drop_zero, if_pos (percB_take3 hp)]
  ·refine ok_sign f h1 (by simp; omega) (.inl (by rw [hd, hc]; rfl)) (percB_short (by simp; omega)) (esc2_head (by rw [headD_take h1, hd, hc]; show (37 : UInt8) ≠ 92; decide))
 ·rw [Bool.not_eq_true] at hp
  by_cases he : esc2 (l.drop j) = true
  ·have hpf : pieceF l j = ((l.drop (j + 1)).take 1, 2, -1) := by unfold pieceF; rw [if_neg (by rw [hp]; simp), if_pos he]
   obtain ⟨b, t', ht', _⟩ := esc2_front he
   have hc : c = 92 := by rw [hd] at ht'; cases ht'; rfl
   have h2 : t = b :: t' := by rw [hd] at ht'; cases ht'; rfl
   have hv : pcV (pieceF l j) f = (2, false) := by rw [hpf]; unfold pcV mayP; simp
   rw [hv]
   rw [h2] at hlen
   simp at hlen
   refine pcF_first (by rw [hg, hc]; decide) (by omega) ?_ 1 1 (by omega) (by omega) (by omega) (fun m h1 h2 => ?_)
   ·have hT : tryT ((l.drop j).take 2) f = (l.drop j).take 2 := by
     unfold tryT; rw [if_neg]; rintro ⟨_, _, h4⟩; exact h4 (by rw [hd, hc]; rfl)
    rw [hT]
    refine locOk_all (by simp; omega) (p := (((l.drop j).take 2).drop 1).take 1) (n := 2) ?_ (by simp; omega)
    unfold stepL
    rw [List.drop_zero, if_neg (by rw [percB_short (by simp; omega)]; simp), if_pos (esc2_take2 he)]
   ·obtain rfl : m = 1 := by omega
    refine ok_sign f h1 (by simp; omega) (.inr (by rw [hd, hc]; rfl)) (percB_short (by simp; omega)) ?_
    rw [hd]; rfl
  ·rw [Bool.not_eq_true] at he
   by_cases hs : c = 37 \/ c = 92
   ·have hn : nextAt l j = ((c.toNat : Int), 1) := nextAt_low hd (by rcases hs with rfl | rfl <;> decide)
    have hpf : pieceF l j = ([], 1, -2) := by
     unfold pieceF
     rw [if_neg (by rw [hp]; simp), if_neg (by rw [he]; simp), hn, if_neg (by simp), if_pos]
     rcases hs with rfl | rfl
     ·exact .inl rfl
     ·exact .inr rfl
    have hv : pcV (pieceF l j) f = (0, false) := by rw [hpf]; unfold pcV mayP; simp
    rw [hv]
    refine pcF_none (by rw [hg]; rcases hs with rfl | rfl <;> decide) 4 1 (by omega) (by omega) (fun m h1 h2 h3 => ?_)
    refine ok_sign f h1 (by simp; omega) (by rw [hd]; exact hs) ?_ ?_
    ·cases hx : percB ((l.drop j).take m) with
     | false => rfl
     | true => rw [percB_take hx] at hp; cases hp
    ·cases hx : esc2 ((l.drop j).take m) with
     | false => rfl
     | true => rw [esc2_take hx] at he; cases he
   ·have hc1 : (l.drop j).headD 0 ≠ 37 := by rw [hd]; exact fun e => hs (.inl e)
    have hc2 : (l.drop j).headD 0 ≠ 92 := by rw [hd]; exact fun e => hs (.inr e)
    obtain ⟨v, m, hq⟩ : ∃ v m, nextP (l.drop j) = (v, m) := ⟨_, _, rfl⟩
    have hqa : nextAt l (j : Int) = (v, m) := by rw [nextAt_nat]; exact hq
    by_cases hm : m = 0
    ·subst hm
     have hpf : pieceF l j = ([], 0, -3) := by
      unfold pieceF
      rw [if_neg (by rw [hp]; simp), if_neg (by rw [he]; simp), hqa, if_pos rfl]
     have hv : pcV (pieceF l j) f = (0, false) := by rw [hpf]; unfold pcV mayP; simp
     rw [hv]
     have h46 : l.getD j 0 ≠ 46 := fun e => by
      rw [hg] at e
      rw [hd, e, nextP_1 (by decide)] at hq
      cases hq
     refine pcF_none h46 4 1 (by omega) (by omega) (fun n h1 h2 h3 => ?_)
     have hv46 : f = false -> v ≠ 46 := fun _ e => by
      subst e
      obtain ⟨v', m', hq'⟩ : ∃ v' m', nextP (l.drop j) = (v', m') := ⟨_, _, rfl⟩
      rw [hd] at hq
      by_cases hb : leadN c.toNat = 0 \/ t.length + 1 < leadN c.toNat
      ·rw [nextP_none hb] at hq; cases hq
      ·have e : nextP (c :: t) = finN (leadN c.toNat) (tailV (leadV c.toNat) t (leadN c.toNat - 1)) := by rw [nextP, if_neg hb]
       rw [e] at hq
       cases ho : tailV (leadV c.toNat) t (leadN c.toNat - 1) with
       | none => rw [ho] at hq; cases hq
       | some x =>
        rw [ho, finN] at hq
        by_cases hx : x < leastOf (leadN c.toNat) \/ scal x = false
        ·rw [if_pos hx] at hq; cases hq
        ·rw [if_neg hx] at hq
         have := (Prod.mk.inj hq).2
         simp at hb
         omega
     rcases ok_plain (r := l.drop j) (n := n) f h1 (by simp; omega) hc1 hc2 hq hv46 with h | ⟨h, _⟩
     ·rw [h]; rfl
     ·exact absurd rfl h
    ·have hb := nextAt_bound hqa hm
     have hn37 : ¬ (v = 37 \/ v = 92) := by
      rintro (e | e)
      ·have := nextAt_head hqa hm (by omega) hd
       exact hs (.inl (UInt8.toNat_inj.1 (by rw [e] at this; simp; omega)))
      ·have := nextAt_head hqa hm (by omega) hd
       exact hs (.inr (UInt8.toNat_inj.1 (by rw [e] at this; simp; omega)))
     have hpf : pieceF l j = ((l.drop j).take m, m, v) := by
      unfold pieceF
      rw [if_neg (by rw [hp]; simp), if_neg (by rw [he]; simp), hqa, if_neg hm, if_neg hn37]
     have hmay : mayP (pieceF l j) f = standsB v f false := by
      rw [hpf]; unfold mayP
      simp only
      rw [show (m == 0) = false from beq_eq_false_iff_ne.2 hm, show (v == -1) = false from beq_eq_false_iff_ne.2 (by omega), decide_eq_true (show (0 : Int) <= v by omega)]
      simp
     by_cases h46 : v = 46
     ·have hc46 : c = 46 := by
       have := nextAt_head hqa hm (by omega) hd
       exact UInt8.toNat_inj.1 (by rw [h46] at this; simp; omega)
      have hm1 : m = 1 := nextAt_ascii hqa hm (by omega)
      rw [pcF_dot hj (by rw [hg]; exact hc46)]
      unfold pcV
      rw [hmay, hpf, h46, hm1]
      cases f
      ·rw [show standsB 46 false false = true by decide]; rfl
      ·rw [show standsB 46 true false = false by decide]; rfl
     ·have hg46 : l.getD j 0 ≠ 46 := fun e => by
       rw [hg] at e
       rw [hd, e, nextP_1 (by decide)] at hq
       have := (Prod.mk.inj hq).1
       exact h46 (by rw [<- this]; rfl)
      by_cases hst : standsB v f true = true
      ·have hmt : mayP (pieceF l j) f = true := by
        rw [hmay]
        cases f with
        | true => rw [standsB_first v false true]; exact hst
        | false => rw [standsB_dot h46]; exact hst
       have hv : pcV (pieceF l j) f = (m, false) := by
        unfold pcV
        rw [if_pos hmt, hpf]
        simp only
        rw [decide_eq_false h46]
       rw [hv]
       refine pcF_first hg46 (by have := nextP_le4 hq; omega) ?_ 4 1 (by have := nextP_le4 hq; omega) (by omega) (by omega) (fun n h1 h2 => ?_)
       ·rcases ok_plain (r := l.drop j) (n := m) f (by omega) (by simp; omega) hc1 hc2 hq (fun _ => h46) with h | ⟨_, h, _⟩
        ·rw [h, hst, decide_eq_true rfl, show (m == 0) = false from beq_eq_false_iff_ne.2 hm]; rfl
        ·omega
       ·rcases ok_plain (r := l.drop j) (n := n) f h1 (by simp; omega) hc1 hc2 hq (fun _ => h46) with h | ⟨_, h, _⟩
        ·rw [h, decide_eq_false (by omega)]; simp
        ·omega
      ·have hmt : mayP (pieceF l j) f = false := by
        rw [hmay]
        rw [Bool.not_eq_true] at hst
        cases f with
        | true => rw [standsB_first v false true]; exact hst
        | false => rw [standsB_dot h46]; exact hst
       have hv : pcV (pieceF l j) f = (0, false) := by unfold pcV; rw [if_neg (by rw [hmt]; simp)]
       rw [hv]
       refine pcF_none hg46 4 1 (by omega) (by omega) (fun n h1 h2 h3 => ?_)
       rcases ok_plain (r := l.drop j) (n := n) f h1 (by simp; omega) hc1 hc2 hq (fun _ => h46) with h | ⟨_, _, h⟩
       ·rw [Bool.not_eq_true] at hst
        rw [h, hst]; simp
       ·exact absurd h hst
end Go.Proofs.YtdhmpakhdhdebaaGreatDoor
namespace Go.Proofs.YtdhmpakhdhdebaaGreatDoor
open Go.RowKit
set_option maxRecDepth 100000
theorem pieceF_dot {l : List UInt8} {j : Nat} {f : Bool} (h : mayP (pieceF l j) f = true) : lastP (pieceF l j) f = !decide ((pieceF l j).2.2 = 46) := by
 generalize pieceF l j = p at h ⊢
 obtain ⟨t, n, v⟩ := p
 unfold mayP at h
 unfold lastP
 simp only at h ⊢
 simp only [Bool.and_eq_true, Bool.or_eq_true] at h
 rcases h.2 with h1 | ⟨h1, h2⟩
 ·rw [h1, Bool.true_or, Bool.true_or, eq_of_beq h1]; rfl
 ·have h0 : 0 <= v := of_decide_eq_true h1
  rw [show (v == -1) = false from beq_eq_false_iff_ne.2 (by omega), Bool.false_or]
  by_cases h46 : v = 46
  ·subst h46
   cases f with
   | true => exact absurd h2 (by decide)
   | false => rw [show standsB 46 false true = false by decide]; rfl
  ·rw [decide_eq_false h46]
   cases f with
   | true => rfl
   | false => rw [standsB_dot h46] at h2; rw [h2]; rfl
def locP (l : List UInt8) (a i e : Nat) : Nat :=
 if _h : (pcF l i (decide (i = a)) 1).1 = 0 \/ l.length < i + (pcF l i (decide (i = a)) 1).1 then e
 else locP l a (i + (pcF l i (decide (i = a)) 1).1) (if (pcF l i (decide (i = a)) 1).2 = true then e else i + (pcF l i (decide (i = a)) 1).1)
termination_by l.length - i
theorem locP_stop {l : List UInt8} {a i e : Nat} (h : (pcF l i (decide (i = a)) 1).1 = 0) : locP l a i e = e := by rw [locP, dif_pos (.inl h)]
theorem pcF_bound (l : List UInt8) (i : Nat) (f : Bool) : i + (pcF l i f 1).1 <= l.length \/ (pcF l i f 1).1 = 0 := by
 by_cases hi : i < l.length
 ·rw [piece_eq l i f hi]
  unfold pcV
  cases h : mayP (pieceF l i) f with
  | true => rw [if_pos rfl]; exact .inl (pieceF_bound h).2
  | false => exact .inr rfl
 ·rw [pcF_out (by omega)]; exact .inr rfl
theorem locP_go {l : List UInt8} {a i e n : Nat} {d : Bool} (h : pcF l i (decide (i = a)) 1 = (n, d)) (hn : n ≠ 0) : locP l a i e = locP l a (i + n) (if d = true then e else i + n) := by
 have hb := pcF_bound l i (decide (i = a))
 rw [h] at hb
 rw [locP, h, dif_neg]
 rintro (h | h)
 ·exact hn h
 ·simp only at h hb; omega
theorem mayP_in {l : List UInt8} {i : Nat} {f : Bool} (h : mayP (pieceF l i) f = true) : i < l.length := by have := pieceF_bound h; omega
theorem locP_eq (l : List UInt8) (a : Nat) : ∀ (k i e : Nat) (says kept : List UInt8), l.length - i <= k -> locP l a i e = (locG l a i says e kept).1
 | k, i, e, says, kept, hk => by
  cases hm : mayP (pieceF l i) (decide (i = a)) with
  | false =>
   rw [locG_stop hm]
   refine locP_stop ?_
   by_cases hi : i < l.length
   ·rw [piece_eq l i _ hi]; unfold pcV; rw [if_neg (by rw [hm]; simp)]
   ·rw [pcF_out (by omega)]
  | true =>
   have hi := mayP_in hm
   have hb := pieceF_bound hm
   have hp : pcF l i (decide (i = a)) 1 = ((pieceF l i).2.1, decide ((pieceF l i).2.2 = 46)) := by rw [piece_eq l i _ hi]; unfold pcV; rw [if_pos hm]
   rw [locP_go hp (by omega), locG_go hm, pieceF_dot hm]
   match k, hk with
   | 0, hk => omega
   | k + 1, hk =>
    have he : (if decide ((pieceF l i).2.2 = 46) = true then e else i + (pieceF l i).2.1) = (if (!decide ((pieceF l i).2.2 = 46)) = true then i + (pieceF l i).2.1 else e) := by
     cases decide ((pieceF l i).2.2 = 46) <;> rfl
    rw [he]
    exact locP_eq l a k _ _ _ _ (by omega)
theorem localP_eq (l : List UInt8) (i : Nat) : locP l i i i = (localG l i).1 := locP_eq l i (l.length - i) i i [] [] (Nat.le_refl _)
theorem locG_bound (l : List UInt8) (a : Nat) : ∀ (k i e : Nat) (says kept : List UInt8), l.length - i <= k -> e <= i -> i <= l.length -> e <= (locG l a i says e kept).1 /\ (locG l a i says e kept).1 <= l.length
 | k, i, e, says, kept, hk, he, hi => by
  cases hm : mayP (pieceF l i) (decide (i = a)) with
  | false => rw [locG_stop hm]; exact ⟨Nat.le_refl _, by show e <= _; omega⟩
  | true =>
   have hb := pieceF_bound hm
   rw [locG_go hm]
   match k, hk with
   | 0, hk => omega
   | k + 1, hk =>
    have := locG_bound l a k (i + (pieceF l i).2.1) (if lastP (pieceF l i) (decide (i = a)) = true then i + (pieceF l i).2.1 else e) (says ++ (pieceF l i).1) (if lastP (pieceF l i) (decide (i = a)) = true then says ++ (pieceF l i).1 else kept) (by omega) (by split <;> omega) (by omega)
    exact ⟨Nat.le_trans (by split <;> omega) this.1, this.2⟩
theorem localG_bound {l : List UInt8} {i : Nat} (h : i <= l.length) : i <= (localG l i).1 /\ (localG l i).1 <= l.length := locG_bound l i (l.length - i) i i [] [] (Nat.le_refl _) (Nat.le_refl _) h
theorem cut_drop (l : List UInt8) (a e k : Nat) : (cutF l a e).drop k = (l.drop (a + k)).take (e - (a + k)) := by
 unfold cutF
 rw [List.drop_take, List.drop_drop]
 congr 1
 omega
theorem piece_cut {l : List UInt8} {a i e : Nat} (hai : a <= i) (hm : mayP (pieceF l i) (decide (i = a)) = true) (he : i + (pieceF l i).2.1 <= e) (hel : e <= l.length) (hl : i + (pieceF l i).2.1 = e -> lastP (pieceF l i) (decide (i = a)) = true) :
  stepL (cutF l a e) (i - a) = .inl ((pieceF l i).1, (pieceF l i).2.1) := by
 have hlen : (cutF l a e).length = e - a := by unfold cutF; simp; omega
 have hd : (cutF l a e).drop (i - a) = (l.drop i).take (e - i) := by rw [cut_drop, show a + (i - a) = i by omega]
 have hd1 : (cutF l a e).drop (i - a + 1) = (l.drop (i + 1)).take (e - (i + 1)) := by rw [cut_drop, show a + (i - a + 1) = i + 1 by omega]
 have hb := pieceF_bound hm
 by_cases hp : percB (l.drop i) = true
 ·have hpf : pieceF l i = ((l.drop i).take 3, 3, -1) := by unfold pieceF; rw [if_pos hp]
  rw [hpf] at he hb ⊢
  simp only at he hb ⊢
  have h3 : percB ((l.drop i).take (e - i)) = true := by
   match hr : l.drop i, hp with
   | x :: y :: z :: t, hp =>
    obtain ⟨m, hm⟩ : ∃ m, e - i = m + 3 := ⟨e - i - 3, by omega⟩
    rw [hm]; exact hp
   | [], hp => cases hp
   | [_], hp => cases hp
   | [_, _], hp => cases hp
  unfold stepL
  rw [hd, if_pos h3, List.take_take, Nat.min_eq_left (by omega)]
 ·have hpc : percB ((l.drop i).take (e - i)) = false := by
   cases hx : percB ((l.drop i).take (e - i)) with
   | false => rfl
   | true => exact absurd (percB_take hx) hp
  by_cases hes : esc2 (l.drop i) = true
  ·have hpf : pieceF l i = ((l.drop (i + 1)).take 1, 2, -1) := by unfold pieceF; rw [if_neg hp, if_pos hes]
   rw [hpf] at he hb ⊢
   simp only at he hb ⊢
   have h3 : esc2 ((l.drop i).take (e - i)) = true := by
    match hr : l.drop i, hes with
    | x :: y :: t, hes =>
     obtain ⟨m, hm⟩ : ∃ m, e - i = m + 2 := ⟨e - i - 2, by omega⟩
     rw [hm]; exact hes
    | [], hes => cases hes
    | [_], hes => cases hes
   unfold stepL
   rw [hd, hpc, if_neg (by simp), if_pos h3, hd1, List.take_take, Nat.min_eq_left (by omega)]
  ·have hec : esc2 ((l.drop i).take (e - i)) = false := by
    cases hx : esc2 ((l.drop i).take (e - i)) with
    | false => rfl
    | true => exact absurd (esc2_take hx) hes
   obtain ⟨v, m, hq⟩ : ∃ v m, nextAt l (i : Int) = (v, m) := ⟨_, _, rfl⟩
   have hm0 : m ≠ 0 := fun e0 => by
    subst e0
    have hpf : pieceF l i = ([], 0, -3) := by unfold pieceF; rw [if_neg hp, if_neg hes, hq, if_pos rfl]
    rw [hpf] at hb
    exact absurd hb.1 (by decide)
   have hv : ¬ (v = 37 \/ v = 92) := fun h3 => by
    have hpf : pieceF l i = ([], 1, -2) := by unfold pieceF; rw [if_neg hp, if_neg hes, hq, if_neg hm0, if_pos h3]
    rw [hpf] at hm
    unfold mayP at hm
    simp at hm
   have hpf : pieceF l i = ((l.drop i).take m, m, v) := by unfold pieceF; rw [if_neg hp, if_neg hes, hq, if_neg hm0, if_neg hv]
   have hnb := nextAt_bound hq hm0
   rw [hpf] at he hb hl hm ⊢
   simp only at he hb hl ⊢
   have hqc : nextAt (cutF l a e) ((i - a : Nat) : Int) = (v, m) := by
    rw [nextAt_nat, hd]
    rw [nextAt_nat] at hq
    exact nextP_long hq hm0 (by omega)
   have hst : standsB v (decide (i - a = 0)) (decide (i - a + m = (cutF l a e).length)) = true := by
    rw [hlen, show decide (i - a = 0) = decide (i = a) from decide_eq_decide.2 (by omega)]
    have hmay : standsB v (decide (i = a)) false = true := by
     unfold mayP at hm
     simp only [Bool.and_eq_true, Bool.or_eq_true] at hm
     rcases hm.2 with h | h
     ·have := eq_of_beq h; omega
     ·exact h.2
    by_cases hend : i + m = e
    ·have hla := hl hend
     unfold lastP at hla
     simp only [Bool.or_eq_true] at hla
     rw [decide_eq_true (show i - a + m = e - a by omega)]
     rcases hla with (h | h) | h
     ·have := eq_of_beq h; omega
     ·rw [h] at hmay ⊢; rw [standsB_first v true false]; exact hmay
     ·cases hd : decide (i = a) with
      | true => rw [hd] at hmay; rw [standsB_first v true false]; exact hmay
      | false => exact h
    ·rw [decide_eq_false (show ¬ i - a + m = e - a by omega)]
     exact hmay
   unfold stepL
   rw [hd, hpc, hec, hqc]
   simp only [Bool.false_eq_true, if_false]
   rw [if_neg hm0, if_neg hv, if_pos hst, List.take_take, Nat.min_eq_left (by omega)]
theorem locG_says (l : List UInt8) (a : Nat) : ∀ (k i e : Nat) (says kept : List UInt8), l.length - i <= k -> a <= i -> e <= i -> i <= l.length ->
  (locG l a i says e kept = (e, kept)) \/ (i < (locG l a i says e kept).1 /\ ∃ r, (locG l a i says e kept).2 = says ++ r /\ locF (cutF l a (locG l a i says e kept).1) (i - a) = .inl r)
 | k, i, e, says, kept, hk, hai, he, hi => by
  cases hm : mayP (pieceF l i) (decide (i = a)) with
  | false => left; exact locG_stop hm
  | true =>
   have hb := pieceF_bound hm
   have hgo := locG_go (l := l) (a := a) (e := e) (says := says) (kept := kept) hm
   match k, hk with
   | 0, hk => omega
   | k + 1, hk =>
    have hbd := locG_bound l a (l.length) (i + (pieceF l i).2.1) (if lastP (pieceF l i) (decide (i = a)) = true then i + (pieceF l i).2.1 else e) (says ++ (pieceF l i).1) (if lastP (pieceF l i) (decide (i = a)) = true then says ++ (pieceF l i).1 else kept) (by omega) (by split <;> omega) (by omega)
    have ih := locG_says l a k (i + (pieceF l i).2.1) (if lastP (pieceF l i) (decide (i = a)) = true then i + (pieceF l i).2.1 else e) (says ++ (pieceF l i).1) (if lastP (pieceF l i) (decide (i = a)) = true then says ++ (pieceF l i).1 else kept) (by omega) (by omega) (by split <;> omega) (by omega)
    rw [<- hgo] at ih hbd
    rcases ih with h | ⟨h1, r, h2, h3⟩
    ·cases hl : lastP (pieceF l i) (decide (i = a)) with
     | false => left; rw [h, hl]; rfl
     | true =>
      right
      rw [hl, if_pos rfl, if_pos rfl] at h
      rw [h]
      refine ⟨by show i < i + _; omega, (pieceF l i).1, rfl, ?_⟩
      have hs := piece_cut hai hm (Nat.le_refl _) hb.2 (fun _ => hl)
      have hlen : (cutF l a (i + (pieceF l i).2.1)).length = i + (pieceF l i).2.1 - a := by unfold cutF; simp; omega
      show locF (cutF l a (i + (pieceF l i).2.1)) (i - a) = _
      rw [locF_step (by omega) hs, locF_end (by omega)]
      simp [putF]
    ·right
     refine ⟨by omega, (pieceF l i).1 ++ r, by rw [h2, List.append_assoc], ?_⟩
     have hs := piece_cut hai hm (e := (locG l a i says e kept).1) (by omega) hbd.2 (fun x => by omega)
     have hlen : (cutF l a (locG l a i says e kept).1).length = (locG l a i says e kept).1 - a := by unfold cutF; simp; omega
     rw [locF_step (by omega) hs, show i - a + (pieceF l i).2.1 = i + (pieceF l i).2.1 - a by omega, h3]
     rfl
theorem localG_says {l : List UInt8} {i : Nat} (h : i <= l.length) : locF (cutF l i (localG l i).1) 0 = .inl (localG l i).2 := by
 have hs := locG_says l i l.length i i [] [] (by omega) (Nat.le_refl _) (Nat.le_refl _) h
 unfold localG
 rcases hs with h | ⟨_, r, h2, h3⟩
 ·rw [h, locF_end (by unfold cutF; simp)]
 ·rw [Nat.sub_self] at h3
  rw [h3, h2]; rfl
def numP (l : List UInt8) (i : Nat) : Nat × List UInt8 :=
 let f := numD l i
 let a := digE l f
 let b := digE l (a + 1)
 let dot := decide (a < l.length) && l.getD a 0 == 46
 let man := if dot = true /\ a + 1 < b then b else if dot = true /\ f < a then a + 1 else a
 if man < powE l man /\ f < man then (powE l man, doubleN)
 else if a < powE l a /\ f < a then (powE l a, doubleN)
 else if dot = true /\ a + 1 < b then (b, decimalN)
 else if f < a then (a, integerN)
 else (f, [])
theorem numD_gt (l : List UInt8) (i : Nat) : i <= numD l i /\ numD l i <= i + 1 := by unfold numD; split <;> omega
theorem num_eq (l : List UInt8) (i : Nat) : (numD l i < (numP l i).1 -> numP l i = numG l i) /\ (¬ numD l i < (numP l i).1 -> numG l i = (i, [])) := by
 have hf := numD_gt l i
 unfold numP numG
 simp only
 generalize numD l i = f at hf ⊢
 have ha := digE_ge l f
 generalize digE l f = a at ha ⊢
 have hb := digE_ge l (a + 1)
 have hpa := (powE_bound l a).1
 have hpb := (powE_bound l (digE l (a + 1))).1
 have hdb : ∀ h : digE l (a + 1) = a + 1, powE l (digE l (a + 1)) = powE l (a + 1) := fun h => by rw [h]
 have hdot : (decide (a < l.length) && l.getD a 0 == 46) = true -> powE l a = a := fun h => by
  simp only [Bool.and_eq_true, decide_eq_true_eq, beq_iff_eq] at h
  exact powE_no (.inr (by rw [h.2]; decide))
 generalize (decide (a < l.length) && l.getD a 0 == 46) = dot at hdot ⊢
 generalize digE l (a + 1) = b at hb hpb hdb ⊢
 cases dot with
 | false =>
  simp only [Bool.false_eq_true, false_and, if_false]
  by_cases h1 : f < a /\ a < powE l a
  ·rw [if_pos ⟨h1.2, h1.1⟩, if_pos h1]; exact ⟨fun _ => rfl, fun h => absurd (show f < powE l a by omega) h⟩
  ·rw [if_neg (fun h => h1 ⟨h.2, h.1⟩), if_neg (fun h => h1 ⟨h.2, h.1⟩), if_neg h1]
   by_cases h2 : f < a
   ·rw [if_pos h2, if_pos h2]; exact ⟨fun _ => rfl, fun h => absurd h2 h⟩
   ·rw [if_neg h2, if_neg h2]; exact ⟨fun h => absurd h (Nat.lt_irrefl _), fun _ => rfl⟩
 | true =>
  have hda := hdot rfl
  simp only [true_and]
  rw [hda]
  by_cases h1 : a + 1 < b
  ·rw [if_pos h1]
   by_cases h2 : b < powE l b
   ·rw [if_pos ⟨h2, by omega⟩, if_pos ⟨.inr h1, h2⟩]; exact ⟨fun _ => rfl, fun h => absurd (show f < powE l b by omega) h⟩
   ·rw [if_neg (fun h => h2 h.1), if_neg (fun h => absurd h.1 (Nat.lt_irrefl _)), if_pos h1, if_neg (fun h => h2 h.2), if_neg (fun h => absurd h.2 (Nat.lt_irrefl _)), if_pos h1]
    exact ⟨fun _ => rfl, fun h => absurd (show f < b by omega) h⟩
  ·have hbe : b = a + 1 := by omega
   subst hbe
   rw [if_neg h1]
   by_cases h3 : f < a
   ·rw [if_pos h3]
    by_cases h2 : a + 1 < powE l (a + 1)
    ·rw [if_pos ⟨h2, by omega⟩, if_pos ⟨.inl h3, h2⟩]; exact ⟨fun _ => rfl, fun h => absurd (show f < powE l (a + 1) by omega) h⟩
    ·rw [if_neg (fun h => h2 h.1), if_neg (fun h => absurd h.1 (Nat.lt_irrefl _)), if_neg h1, if_pos h3, if_neg (fun h => h2 h.2), if_neg (fun h => absurd h.2 (Nat.lt_irrefl _)), if_neg h1, if_pos h3]
     exact ⟨fun _ => rfl, fun h => absurd h3 h⟩
   ·rw [if_neg h3, hda, if_neg (fun h => absurd h.1 (Nat.lt_irrefl _)), if_neg (fun h => absurd h.1 (Nat.lt_irrefl _)), if_neg h1, if_neg h3, if_neg (by rintro ⟨h | h, _⟩; exact h3 h; exact h1 h), if_neg (fun h => h3 h.1), if_neg h1, if_neg h3]
    exact ⟨fun h => absurd h (Nat.lt_irrefl _), fun _ => rfl⟩
end Go.Proofs.YtdhmpakhdhdebaaGreatDoor
namespace Go.Proofs.YtdhmpakhdhdebaaGreatDoor
open Go.RowKit
set_option maxRecDepth 100000
def signs8 : List UInt8 := [59, 44, 91, 93, 40, 41, 123, 125]
def numTok (l : List UInt8) (i : Nat) : TokR :=
 if numD l i < (numP l i).1 then .inl ⟨6, cutF l i (numP l i).1, [], xsdW ++ (numP l i).2, (i : Nat), ((numP l i).1 : Nat)⟩
 else if l.getD i 0 = 46 then .inl ⟨8, [46], [], [], (i : Nat), (i + 1 : Nat)⟩
 else .inr (i, 100)
def tokP (l : List UInt8) (i : Nat) : TokR :=
 if l.getD i 0 = 60 then iriG l i
 else if l.getD i 0 = 95 then labelG l i
 else if l.getD i 0 = 34 \/ l.getD i 0 = 39 then quoteG l i
 else if l.getD i 0 = 64 then atG l i
 else if l.getD i 0 = 43 \/ l.getD i 0 = 45 \/ l.getD i 0 = 46 \/ digC (l.getD i 0) = true then numTok l i
 else if signs8.contains (l.getD i 0) = true then .inl ⟨8, [l.getD i 0], [], [], (i : Nat), (i + 1 : Nat)⟩
 else if l.getD i 0 = 94 /\ i + 1 < l.length /\ l.getD (i + 1) 0 = 94 then .inl ⟨8, [94, 94], [], [], (i : Nat), (i + 2 : Nat)⟩
 else nameG l i
theorem at_low {l : List UInt8} {i : Nat} (h : i < l.length) (hc : (l.getD i 0).toNat < 128) : nextAt l (i : Int) = (((l.getD i 0).toNat : Int), 1) := by
 have hd : l.drop i = l.getD i 0 :: l.drop (i + 1) := by rw [List.drop_eq_getElem_cons h]; simp [List.getD, h]
 exact nextAt_low hd hc
theorem not_letter {c : UInt8} (h : c.toNat < 128) (h2 : alphaC c = false) : baseB (c.toNat : Int) = false := by
 rw [baseB_low (by omega)]
 unfold alphaC at h2
 unfold letterB
 simp only [Bool.or_eq_false_iff, Bool.and_eq_false_iff, decide_eq_false_iff_not] at h2 ⊢
 omega
theorem is_letter {c : UInt8} (h : alphaC c = true) : c.toNat < 128 /\ baseB (c.toNat : Int) = true := by
 unfold alphaC at h
 simp only [Bool.or_eq_true, Bool.and_eq_true, decide_eq_true_eq] at h
 refine ⟨by omega, ?_⟩
 rw [baseB_low (by omega)]
 unfold letterB
 simp only [Bool.or_eq_true, decide_eq_true_eq]
 omega
theorem low_letter {c x : UInt8} (h : lowB c = x) (hx : 97 <= x.toNat /\ x.toNat <= 122) : alphaC c = true := by
 unfold alphaC
 simp only [Bool.or_eq_true, Bool.and_eq_true, decide_eq_true_eq]
 unfold lowB at h
 split at h
 ·omega
 ·subst h; omega
theorem base_low {l : List UInt8} {i : Nat} (h : i < l.length) {c : UInt8} (hc : l.getD i 0 = c) (hl : c.toNat < 128) (ha : alphaC c = false) : baseB (nextAt l (i : Int)).1 = false := by
 rw [at_low h (by rw [hc]; exact hl), hc]
 exact not_letter hl ha
theorem num_none {l : List UInt8} {i : Nat} (h : i < l.length) (h1 : signC (l.getD i 0) = false) (h2 : digC (l.getD i 0) = false) (h3 : l.getD i 0 ≠ 46) : numG l i = (i, []) := by
 have hf : numD l i = i := by unfold numD; rw [if_neg (by rw [h1]; simp)]
 unfold numG
 simp only
 rw [hf, digE_stop h h2, show (decide (i < l.length) && l.getD i 0 == 46) = false by rw [beq_eq_false_iff_ne.2 h3, Bool.and_false]]
 simp
theorem num_dig {l : List UInt8} {i : Nat} (h : i < l.length) (h2 : digC (l.getD i 0) = true) : numD l i < (numP l i).1 := by
 have hs : signC (l.getD i 0) = false := by
  unfold digC at h2
  unfold signC
  simp only [Bool.and_eq_true, decide_eq_true_eq] at h2
  simp only [Bool.or_eq_false_iff, beq_eq_false_iff_ne]
  exact ⟨fun e => by rw [e] at h2; exact absurd h2.1 (by decide), fun e => by rw [e] at h2; exact absurd h2.1 (by decide)⟩
 have hf : numD l i = i := by unfold numD; rw [if_neg (by rw [hs]; simp)]
 have ha : i < digE l i := by rw [digE_go h h2]; have := digE_ge l (i + 1); omega
 have hb := digE_ge l (digE l i + 1)
 unfold numP
 simp only
 rw [hf]
 generalize digE l i = a at ha hb ⊢
 generalize digE l (a + 1) = b at hb ⊢
 generalize (decide (a < l.length) && l.getD a 0 == 46) = dot
 generalize (if dot = true /\ a + 1 < b then b else if dot = true /\ i < a then a + 1 else a) = m
 by_cases h1 : m < powE l m /\ i < m
 ·rw [if_pos h1]; show i < powE l m; omega
 ·rw [if_neg h1]
  by_cases h2 : a < powE l a /\ i < a
  ·rw [if_pos h2]; show i < powE l a; omega
  ·rw [if_neg h2]
   by_cases h3 : dot = true /\ a + 1 < b
   ·rw [if_pos h3]; show i < b; omega
   ·rw [if_neg h3, if_pos ha]; exact ha
theorem cut_nil {l : List UInt8} {i : Nat} : cutF l i i = [] := by unfold cutF; simp
theorem word_first {l : List UInt8} {d : Bool} {i : Nat} (h : i < wordE l d i) : ∃ v m, nextAt l (i : Int) = (v, m) /\ m ≠ 0 /\ i + m <= wordE l d i /\ wordE l d i <= l.length /\ nextP (cutF l i (wordE l d i)) = (v, m) /\ cutF l i (wordE l d i) ≠ [] := by
 obtain ⟨v, m, hq⟩ : ∃ v m, nextAt l (i : Int) = (v, m) := ⟨_, _, rfl⟩
 by_cases hs : m = 0 \/ (followB v = false /\ ¬ (d = true /\ v = 46))
 ·rw [wordE_stop hq hs] at h; omega
 ·have hm : m ≠ 0 := fun x => hs (.inl x)
  have hb := nextAt_bound hq hm
  have hb2 := wordE_bound l d l.length (i + m) (by omega) (by omega)
  rw [<- wordE_go hq hs] at hb2
  refine ⟨v, m, hq, hm, hb2.1, hb2.2, ?_, ?_⟩
  ·rw [nextAt_nat] at hq
   exact nextP_long hq hm (by omega)
  ·intro e
   have := congrArg List.length e
   unfold cutF at this
   simp at this
   omega
theorem whole_first {u : List UInt8} {v : Int} {m : Nat} (h : nextP u = (v, m)) (hm : m ≠ 0) (first : Int -> Bool) (hf : first v = false) : wholeR first u = false := by
 have hu : 0 < u.length := by
  have := (nextP_bound (r := u) (by rw [h]; exact hm)).1
  rw [h] at this
  simp at this
  omega
 have hq : nextAt u ((0 : Nat) : Int) = (v, m) := by rw [nextAt_nat]; exact h
 unfold wholeR
 rw [scalF_go hu hq hm]
 cases scalF u (0 + m) with
 | none => rfl
 | some t => show (first v && okRest t) = false; rw [hf]; rfl
theorem name_none {l : List UInt8} {i : Nat} (h : baseB (nextAt l (i : Int)).1 = false) (hc : l.getD i 0 ≠ 58) : nameG l i = .inr (i, 100) := by
 have hb := fun d => wordE_bound l d
 have hp : prefE l i = none := by
  unfold prefE
  rw [if_neg]
  rintro ⟨h1, h2, h3⟩
  by_cases he : i < wordE l true i
  ·obtain ⟨v, m, hq, hm, _, _, hn, hne⟩ := word_first he
   rw [hq] at h
   unfold prefOk at h3
   rw [decide_eq_false hne, whole_first hn hm baseB h] at h3
   cases h3
  ·by_cases hi : i <= l.length
   ·have := (hb true l.length i (by omega) hi).1
    rw [show wordE l true i = i by omega] at h2
    exact hc h2
   ·have hq : nextAt l (i : Int) = (0, 0) := nextAt_out (.inr (by omega))
    rw [wordE_stop hq (.inl rfl)] at h1
    omega
 unfold nameG
 rw [hp]
 show wordG l i = _
 have key : ∀ w : List UInt8, (∃ c t, cutF l i (wordE l false i) = c :: t /\ alphaC c = true) -> False := by
  rintro _ ⟨c, t, he, ha⟩
  by_cases hlt : i < wordE l false i
  ·obtain ⟨v, m, hq, hm, _, _, hn, _⟩ := word_first hlt
   have := is_letter ha
   rw [he, nextP_1 this.1] at hn
   cases hn
   rw [hq] at h
   rw [this.2] at h
   cases h
  ·by_cases hi : i <= l.length
   ·have := (hb false l.length i (by omega) hi).1
    rw [show wordE l false i = i by omega, cut_nil] at he
    cases he
   ·have : cutF l i (wordE l false i) = [] := by unfold cutF; rw [List.drop_of_length_le (by omega)]; simp
    rw [this] at he; cases he
 have low : ∀ (x : UInt8) (w : List UInt8), 97 <= x.toNat /\ x.toNat <= 122 -> ¬ lowL (cutF l i (wordE l false i)) = x :: w := fun x w hx e => by
  cases ht : cutF l i (wordE l false i) with
  | nil => rw [ht] at e; cases e
  | cons c t =>
   rw [ht] at e
   exact key [] ⟨c, t, ht, low_letter (List.cons.inj e).1 hx⟩
 unfold wordG
 rw [if_neg, if_neg]
 ·rintro (e | e | e)
  ·exact key [] ⟨_, _, e, by decide⟩
  ·exact key [] ⟨_, _, e, by decide⟩
  ·exact key [] ⟨_, _, e, by decide⟩
 ·rintro (e | e | e)
  ·exact low _ _ (by decide) e
  ·exact low _ _ (by decide) e
  ·exact low _ _ (by decide) e
theorem tok_eq {l : List UInt8} {i : Nat} (h : i < l.length) : tokP l i = tokG l i := by
 have hne : ∀ {c : UInt8}, l.getD i 0 = c -> ∀ d : UInt8, (c == d) = false -> l.getD i 0 ≠ d := fun hc d hd => by rw [hc]; exact beq_eq_false_iff_ne.1 hd
 unfold tokP tokG
 by_cases h60 : l.getD i 0 = 60
 ·rw [if_pos h60, if_pos h60]
 rw [if_neg h60, if_neg h60]
 by_cases h95 : l.getD i 0 = 95
 ·rw [if_pos h95, if_neg (by rintro (e | e); rw [base_low h h95 (by decide) (by decide)] at e; cases e; exact hne h95 58 (by decide) e), if_pos h95]
 rw [if_neg h95]
 by_cases hq : l.getD i 0 = 34 \/ l.getD i 0 = 39
 ·rw [if_pos hq, if_neg, if_neg h95, if_pos hq]
  rcases hq with hc | hc
  ·rintro (e | e)
   ·rw [base_low h hc (by decide) (by decide)] at e; cases e
   ·exact hne hc 58 (by decide) e
  ·rintro (e | e)
   ·rw [base_low h hc (by decide) (by decide)] at e; cases e
   ·exact hne hc 58 (by decide) e
 rw [if_neg hq]
 by_cases h64 : l.getD i 0 = 64
 ·rw [if_pos h64, if_neg (by rintro (e | e); rw [base_low h h64 (by decide) (by decide)] at e; cases e; exact hne h64 58 (by decide) e), if_neg h95, if_neg hq, if_pos h64]
 rw [if_neg h64]
 have hnum := num_eq l i
 by_cases hn : l.getD i 0 = 43 \/ l.getD i 0 = 45 \/ l.getD i 0 = 46 \/ digC (l.getD i 0) = true
 ·rw [if_pos hn]
  have hlow : (l.getD i 0).toNat < 128 /\ alphaC (l.getD i 0) = false /\ l.getD i 0 ≠ 58 := by
   rcases hn with e | e | e | e
   ·rw [e]; decide
   ·rw [e]; decide
   ·rw [e]; decide
   ·unfold digC at e
    simp only [Bool.and_eq_true, decide_eq_true_eq] at e
    refine ⟨by omega, ?_, fun x => by rw [x] at e; exact absurd e.2 (by decide)⟩
    unfold alphaC
    simp only [Bool.or_eq_false_iff, Bool.and_eq_false_iff, decide_eq_false_iff_not]
    omega
  have hb := base_low h rfl hlow.1 hlow.2.1
  rw [if_neg (by rintro (e | e); rw [hb] at e; cases e; exact hlow.2.2 e), if_neg h95, if_neg hq, if_neg h64]
  unfold numTok
  by_cases hs : numD l i < (numP l i).1
  ·have he := hnum.1 hs
   have hd := (numD_gt l i).1
   rw [if_pos hs, <- he, if_pos (by omega)]
  ·have he := hnum.2 hs
   rw [if_neg hs, he, if_neg (Nat.lt_irrefl i)]
   by_cases h46 : l.getD i 0 = 46
   ·rw [if_pos h46, if_neg (by rw [h46]; rintro ⟨e, _⟩; exact absurd e (by decide)), if_pos (by rw [h46]; decide), h46]
   ·rw [if_neg h46]
    have h4 : l.getD i 0 = 43 \/ l.getD i 0 = 45 := by
     rcases hn with e | e | e | e
     ·exact .inl e
     ·exact .inr e
     ·exact absurd e h46
     ·exact absurd (num_dig h e) hs
    rw [if_neg (by rcases h4 with e | e <;> (rw [e]; rintro ⟨x, _⟩; exact absurd x (by decide))), if_neg (by rcases h4 with e | e <;> (rw [e]; decide))]
 ·rw [if_neg hn]
  simp only [not_or, Bool.not_eq_true] at hn
  obtain ⟨n1, n2, n3, n4⟩ := hn
  have hno : numG l i = (i, []) := num_none h (by unfold signC; rw [beq_eq_false_iff_ne.2 n1, beq_eq_false_iff_ne.2 n2]; rfl) n4 n3
  by_cases h8 : signs8.contains (l.getD i 0) = true
  ·rw [if_pos h8]
   have hm : l.getD i 0 ∈ signs8 := List.contains_iff_mem.1 h8
   have hlow : (l.getD i 0).toNat < 128 /\ alphaC (l.getD i 0) = false /\ l.getD i 0 ≠ 58 /\ l.getD i 0 ≠ 94 /\ signsW.contains (l.getD i 0) = true := by
    generalize l.getD i 0 = c at hm
    unfold signs8 at hm
    simp only [List.mem_cons, List.not_mem_nil, or_false] at hm
    rcases hm with e | e | e | e | e | e | e | e <;> (rw [e]; decide)
   have hb := base_low h rfl hlow.1 hlow.2.1
   rw [if_neg (by rintro (e | e); rw [hb] at e; cases e; exact hlow.2.2.1 e), if_neg h95, if_neg hq, if_neg h64, hno, if_neg (Nat.lt_irrefl i), if_neg (fun e => hlow.2.2.2.1 e.1), if_pos hlow.2.2.2.2]
  ·rw [if_neg h8]
   by_cases h94 : l.getD i 0 = 94 /\ i + 1 < l.length /\ l.getD (i + 1) 0 = 94
   ·rw [if_pos h94, if_neg (by rintro (e | e); rw [base_low h h94.1 (by decide) (by decide)] at e; cases e; exact hne h94.1 58 (by decide) e), if_neg h95, if_neg hq, if_neg h64, hno, if_neg (Nat.lt_irrefl i), if_pos h94]
   ·rw [if_neg h94]
    by_cases hbs : baseB (nextAt l (i : Int)).1 = true \/ l.getD i 0 = 58
    ·rw [if_pos hbs]
    ·simp only [not_or, Bool.not_eq_true] at hbs
     rw [if_neg (by rw [hbs.1]; rintro (e | e); cases e; exact hbs.2 e), if_neg h95, if_neg hq, if_neg h64, hno, if_neg (Nat.lt_irrefl i), if_neg h94, if_neg, name_none hbs.1 hbs.2]
     intro e
     have hm : l.getD i 0 ∈ signsW := List.contains_iff_mem.1 e
     apply h8
     apply List.contains_iff_mem.2
     generalize l.getD i 0 = c at hm n3
     unfold signsW at hm
     rcases List.mem_cons.1 hm with e | e
     ·exact absurd e n3
     ·exact e
theorem great_low (c : UInt8) : greatC (lowB c) = greatC c := by
 apply UInt8.toNat_inj.1
 unfold greatC lowB
 by_cases h : 65 <= c.toNat /\ c.toNat <= 90
 ·rw [if_pos h, if_pos (by rw [UInt8.toNat_add]; simp; omega), if_neg (show ¬ (97 <= c.toNat /\ c.toNat <= 122) by omega)]
  rw [UInt8.toNat_sub, UInt8.toNat_add]
  simp
  omega
 ·rw [if_neg h]
theorem great_of_low {t w : List UInt8} (h : lowL t = w) : greatL t = greatL w := by
 rw [<- h]
 unfold greatL lowL
 rw [List.map_map]
 exact List.map_congr_left (fun c _ => (great_low c).symm)
theorem whole_a {v : Int} (hs : scal v = true) (h46 : v ≠ 46) : wholeR labelB (97 :: byU v) = followB v := by
 have h1 : nextAt (97 :: byU v) ((0 : Nat) : Int) = (97, 1) := by rw [nextAt_nat]; exact nextP_1 (by decide)
 have hn := next_byU hs []
 rw [List.append_nil] at hn
 have hl : (byU v).length ≠ 0 := fun e => by
  have : byU v = [] := List.eq_nil_of_length_eq_zero e
  rw [this] at hn
  have h0 : v = 0 := (Prod.mk.inj hn).1.symm
  rw [h0] at this
  exact absurd this (by decide)
 have h2 : nextAt (97 :: byU v) ((1 : Nat) : Int) = (v, (byU v).length) := by rw [nextAt_nat]; exact hn
 unfold wholeR
 rw [scalF_go (by simp) h1 (by decide), scalF_go (by simp; omega) h2 hl, scalF_end (by simp; omega)]
 show (labelB 97 && okRest [v]) = followB v
 rw [show labelB 97 = true by decide, Bool.true_and]
 cases hf : followB v with
 | true => rw [okRest_follow hf]; rfl
 | false => exact okRest_other hf h46
end Go.Proofs.YtdhmpakhdhdebaaGreatDoor
namespace Go.Proofs.YtdhmpakhdhdebaaGreatDoor
open Go.RowKit
set_option maxRecDepth 100000
theorem tailF_le (l : List UInt8) : ∀ (k i e : Nat), l.length - i <= k -> e <= l.length -> tailF l i e <= l.length
 | k, i, e, hk, he => by
  obtain ⟨v, n, hq⟩ : ∃ v n, nextAt l (i : Int) = (v, n) := ⟨_, _, rfl⟩
  by_cases hs : n = 0 \/ (v ≠ 46 /\ followB v = false)
  ·rw [tailF_stop hq hs]; exact he
  have hn : n ≠ 0 := fun x => hs (.inl x)
  have hbd := (nextAt_bound hq hn).2.1
  rw [tailF_go hq hs]
  match k, hk with
  | 0, hk => omega
  | k + 1, hk => exact tailF_le l k (i + n) _ (by omega) (by split <;> omega)
end Go.Proofs.YtdhmpakhdhdebaaGreatDoor
namespace Go.Proofs.YtdhmpakhdhdebaaGreatDoor
open Go.RowKit
set_option maxRecDepth 100000
theorem putF_inr {a : List UInt8} {f : Nat × Int} {o : List UInt8 ⊕ (Nat × Int)} (h : putF a o = .inr f) : o = .inr f := by
 cases o with
 | inl r => simp only [putF] at h; cases h
 | inr g => simp only [putF] at h; cases h; rfl
theorem unesc_at (way : Int) (l : List UInt8) : ∀ (k j p : Nat) (e : Int), l.length - j <= k -> unescF way l j = .inr (p, e) -> p < l.length /\ (e = 40 \/ e = 41)
 | k, j, p, e, hk, h => by
  by_cases hj : l.length <= j
  ·rw [unescF_end hj] at h; cases h
  obtain ⟨v, n, e', hq⟩ : ∃ v n e, atF way l j = ((v, n), e) := ⟨_, _, _, rfl⟩
  by_cases hn : n = 0
  ·subst hn
   rw [unescF_bad (by omega) hq] at h
   cases h
   refine ⟨by omega, ?_⟩
   unfold atF at hq
   split at hq
   ·have := congrArg Prod.snd hq; simp only at this; omega
   ·have := congrArg Prod.snd hq; simp only at this; omega
  ·rw [unescF_go (by omega) hq hn] at h
   match k, hk with
   | 0, hk => omega
   | k + 1, hk => exact unesc_at way l k (j + n) p e (by omega) (putF_inr h)
theorem cutF_len2 {l : List UInt8} {a b : Nat} (h : b <= l.length) : (cutF l a b).length = b - a := by unfold cutF; simp; omega
end Go.Proofs.YtdhmpakhdhdebaaGreatDoor
namespace Go.Proofs.YtdhmpakhdhdebaaGreatDoor
open Go.RowKit
set_option maxRecDepth 100000
def TokAt (l : List UInt8) (i : Nat) : TokR -> Prop
 | .inl t => t.at_ = (i : Nat) /\ (∃ e : Nat, t.fin = (e : Nat) /\ i < e /\ e <= l.length) /\ 1 <= t.kind /\ t.kind <= 8
 | .inr (p, n) => i <= p /\ p <= l.length /\ 0 < n
theorem runF_le (first : Int -> Bool) (l : List UInt8) (a : Nat) : a + runF first l (a : Nat) <= l.length \/ runF first l (a : Nat) = 0 := by
 obtain ⟨v, n, hq⟩ : ∃ v n, nextAt l (a : Int) = (v, n) := ⟨_, _, rfl⟩
 by_cases hs : n = 0 \/ first v = false
 ·exact .inr (runF_no hq hs)
 ·have hn : n ≠ 0 := fun x => hs (.inl x)
  have hb := nextAt_bound hq hn
  have h1 := tailF_le l l.length (a + n) (a + n) (by omega) (by omega)
  have h2 := tailF_ge l l.length (a + n) (a + n) (by omega) (Nat.le_refl _)
  rw [runF_go hq hs]
  omega
theorem numP_le {l : List UInt8} {i : Nat} (h : i < l.length) : (numP l i).1 <= l.length := by
 have hf := numD_gt l i
 have ha := digE_le (l := l) (i := numD l i) (by omega)
 unfold numP
 simp only
 generalize numD l i = f at hf ha ⊢
 generalize digE l f = a at ha ⊢
 have hb : a < l.length -> digE l (a + 1) <= l.length := fun h => digE_le (by omega)
 have hpa := (powE_bound l a).2 ha
 have hpb := fun h => (powE_bound l (digE l (a + 1))).2 (hb h)
 have hp1 := fun h : a + 1 <= l.length => (powE_bound l (a + 1)).2 h
 have hdot : (decide (a < l.length) && l.getD a 0 == 46) = true -> a < l.length := fun h => by
  simp only [Bool.and_eq_true, decide_eq_true_eq] at h
  exact h.1
 generalize (decide (a < l.length) && l.getD a 0 == 46) = dot at hdot ⊢
 generalize digE l (a + 1) = b at hb hpb ⊢
 have hm : powE l (if dot = true /\ a + 1 < b then b else if dot = true /\ f < a then a + 1 else a) <= l.length := by
  split
  ·next h => exact hpb (hdot h.1)
  ·split
   ·next h => exact hp1 (by have := hdot h.1; omega)
   ·exact hpa
 generalize (if dot = true /\ a + 1 < b then b else if dot = true /\ f < a then a + 1 else a) = m at hm ⊢
 by_cases h1 : m < powE l m /\ f < m
 ·rw [if_pos h1]; exact hm
 rw [if_neg h1]
 by_cases h2 : a < powE l a /\ f < a
 ·rw [if_pos h2]; exact hpa
 rw [if_neg h2]
 by_cases h3 : dot = true /\ a + 1 < b
 ·rw [if_pos h3]; exact hb (hdot h3.1)
 rw [if_neg h3]
 by_cases h4 : f < a
 ·rw [if_pos h4]; exact ha
 ·rw [if_neg h4]; show f <= l.length; omega
theorem iri_at {l : List UInt8} {i : Nat} (h : i < l.length) : TokAt l i (iriG l i) := by
 have hb := scanI_bound l l.length (i + 1) (by omega) (by omega)
 unfold iriG
 obtain ⟨x, hx⟩ : ∃ x, scanI l (i + 1) = x := ⟨_, rfl⟩
 rw [hx] at hb ⊢
 rcases x with e | p
 ·have he := hb.1 e rfl
  simp only
  obtain ⟨y, hy⟩ : ∃ y, unescF 2 (cutF l (i + 1) e) 0 = y := ⟨_, rfl⟩
  rw [hy]
  rcases y with t | ⟨p, n⟩
  ·exact ⟨rfl, ⟨e + 1, rfl, by omega, by omega⟩, by show (1 : Int) <= 1; omega, by show (1 : Int) <= 8; omega⟩
  ·have := unesc_at 2 _ _ 0 p n (Nat.le_refl _) hy
   rw [cutF_len2 (by omega)] at this
   exact ⟨by omega, by omega, by rcases this.2 with h | h <;> omega⟩
 ·have := hb.2 p rfl
  exact ⟨by omega, by omega, by show (0 : Int) < 100; omega⟩
theorem close_len {l : List UInt8} {q : UInt8} {b : Bool} {e : Nat} (h : closeB l q b e = true) (he : e < l.length) : e + markN b <= l.length := by
 unfold closeB at h
 unfold markN
 cases b with
 | false => rw [if_neg (by simp)]; omega
 | true =>
  rw [if_pos rfl] at h ⊢
  unfold threeB at h
  simp only [Bool.and_eq_true, decide_eq_true_eq] at h
  omega
theorem scanQ_ge (l : List UInt8) (q : UInt8) (b : Bool) : ∀ (k j p : Nat), l.length - j <= k -> j <= l.length -> scanQ l q b j = .inr p -> j <= p
 | k, j, p, hk, hj, hs => by
  by_cases h : l.length <= j
  ·rw [scanQ_end h] at hs; cases hs; omega
  cases hc : closeB l q b j with
  | true => rw [scanQ_hit (by omega) hc] at hs; cases hs
  | false =>
   match k, hk with
   | 0, hk => omega
   | k + 1, hk =>
    by_cases h9 : l.getD j 0 = 92
    ·by_cases he : b = true \/ l.length <= j + 1 \/ eolC (l.getD (j + 1) 0) = false
     ·rw [scanQ_esc (by omega) hc h9 he] at hs
      by_cases h2 : j + 2 <= l.length
      ·have := scanQ_ge l q b k (j + 2) p (by omega) h2 hs; omega
      ·rw [scanQ_end (by omega)] at hs; cases hs; omega
     ·simp only [not_or, Bool.not_eq_true, Bool.not_eq_false] at he
      obtain ⟨rfl, h1, h2⟩ := he
      rw [scanQ_esc_eol (by omega) hc h9 h2] at hs
      cases hs; omega
    ·by_cases he : b = true \/ eolC (l.getD j 0) = false
     ·rw [scanQ_go (by omega) hc h9 he] at hs
      have := scanQ_ge l q b k (j + 1) p (by omega) (by omega) hs; omega
     ·simp only [not_or, Bool.not_eq_true, Bool.not_eq_false] at he
      obtain ⟨rfl, h1⟩ := he
      rw [scanQ_eol (by omega) hc h1] at hs
      cases hs; omega
theorem quote_at {l : List UInt8} {i : Nat} (h : i < l.length) : TokAt l i (quoteG l i) := by
 have hm : i + markN (threeB l (l.getD i 0) i) <= l.length := by
  cases hb : threeB l (l.getD i 0) i with
  | false => show i + 1 <= l.length; omega
  | true =>
   unfold threeB at hb
   simp only [Bool.and_eq_true, decide_eq_true_eq] at hb
   show i + 3 <= l.length
   omega
 have hm0 : 0 < markN (threeB l (l.getD i 0) i) := by cases threeB l (l.getD i 0) i <;> decide
 unfold quoteG
 generalize threeB l (l.getD i 0) i = b at hm hm0 ⊢
 have hb := scanQ_bound l (l.getD i 0) b l.length (i + markN b) (by omega)
 obtain ⟨x, hx⟩ : ∃ x, scanQ l (l.getD i 0) b (i + markN b) = x := ⟨_, rfl⟩
 rw [hx] at hb ⊢
 rcases x with e | p
 ·have he := hb.1 e rfl
  have hcl := close_len he.2.2 he.2.1
  simp only
  obtain ⟨y, hy⟩ : ∃ y, unescF 1 (cutF l (i + markN b) e) 0 = y := ⟨_, rfl⟩
  rw [hy]
  rcases y with t | ⟨p, n⟩
  ·exact ⟨rfl, ⟨e + markN b, rfl, by omega, hcl⟩, by show (1 : Int) <= 4; omega, by show (4 : Int) <= 8; omega⟩
  ·have := unesc_at 1 _ _ 0 p n (Nat.le_refl _) hy
   rw [cutF_len2 (by omega)] at this
   exact ⟨by omega, by omega, by rcases this.2 with h | h <;> omega⟩
 ·have h1 := hb.2 p rfl
  have h2 := scanQ_ge l (l.getD i 0) b l.length (i + markN b) p (by omega) hm hx
  exact ⟨by omega, h1, by show (0 : Int) < 100; omega⟩
theorem at_at {l : List UInt8} {i : Nat} (h : i < l.length) : TokAt l i (atG l i) := by
 have hb := tagE_bound l l.length (i + 1) (by omega) (by omega)
 unfold atG
 split
 ·exact ⟨rfl, ⟨_, rfl, by omega, hb.2⟩, by show (1 : Int) <= 7; omega, by show (7 : Int) <= 8; omega⟩
 ·cases tagF (cutF l (i + 1) (tagE l (i + 1))) with
  | none => exact ⟨by omega, by omega, by show (0 : Int) < 61; omega⟩
  | some t => exact ⟨rfl, ⟨_, rfl, by omega, hb.2⟩, by show (1 : Int) <= 5; omega, by show (5 : Int) <= 8; omega⟩
theorem numTok_at {l : List UInt8} {i : Nat} (h : i < l.length) : TokAt l i (numTok l i) := by
 have hf := numD_gt l i
 unfold numTok
 split
 ·exact ⟨rfl, ⟨_, rfl, by omega, numP_le h⟩, by show (1 : Int) <= 6; omega, by show (6 : Int) <= 8; omega⟩
 ·split
  ·exact ⟨rfl, ⟨_, rfl, by omega, by omega⟩, by show (1 : Int) <= 8; omega, by show (8 : Int) <= 8; omega⟩
  ·exact ⟨Nat.le_refl _, by omega, by show (0 : Int) < 100; omega⟩
theorem label_at {l : List UInt8} {i : Nat} (h : i < l.length) : TokAt l i (labelG l i) := by
 unfold labelG
 split
 ·exact ⟨Nat.le_refl _, by omega, by show (0 : Int) < 100; omega⟩
 ·next hn =>
  simp only [not_or] at hn
  split
  ·exact ⟨by omega, by omega, by show (0 : Int) < 60; omega⟩
  ·next h0 =>
   have := runF_le labelB l (i + 2)
   refine ⟨rfl, ⟨_, rfl, by omega, ?_⟩, by show (1 : Int) <= 3; omega, by show (3 : Int) <= 8; omega⟩
   rcases this with h | h
   ·omega
   ·exact absurd h h0
theorem prefE_some {l : List UInt8} {i e : Nat} (h : prefE l i = some e) : e = wordE l true i /\ e < l.length /\ l.getD e 0 = 58 /\ prefOk (cutF l i e) = true := by
 unfold prefE at h
 split at h
 ·next hc => cases h; exact ⟨rfl, hc⟩
 ·cases h
theorem name_at {l : List UInt8} {i : Nat} (h : i < l.length) : TokAt l i (nameG l i) := by
 unfold nameG
 obtain ⟨x, hx⟩ : ∃ x, prefE l i = x := ⟨_, rfl⟩
 rw [hx]
 cases x with
 | some e =>
  have he := prefE_some hx
  have hw := wordE_bound l true l.length i (by omega) (by omega)
  have hl := localG_bound (l := l) (i := e + 1) (by omega)
  exact ⟨rfl, ⟨_, rfl, by omega, hl.2⟩, by show (1 : Int) <= 2; omega, by show (2 : Int) <= 8; omega⟩
 | none =>
  have hw := wordE_bound l false l.length i (by omega) (by omega)
  have hne : cutF l i (wordE l false i) ≠ [] -> i < wordE l false i := fun hc => by
   by_cases he : i < wordE l false i
   ·exact he
   ·exact absurd (by rw [show wordE l false i = i by omega]; exact cut_nil) hc
  show TokAt l i (wordG l i)
  unfold wordG
  split
  ·next hc =>
   have hn : cutF l i (wordE l false i) ≠ [] := fun e => by rw [e] at hc; exact absurd hc (by decide)
   exact ⟨rfl, ⟨_, rfl, hne hn, hw.2⟩, by show (1 : Int) <= 7; omega, by show (7 : Int) <= 8; omega⟩
  ·split
   ·next hc =>
    have hn : cutF l i (wordE l false i) ≠ [] := fun e => by rw [e] at hc; exact absurd hc (by decide)
    exact ⟨rfl, ⟨_, rfl, hne hn, hw.2⟩, by show (1 : Int) <= 7; omega, by show (7 : Int) <= 8; omega⟩
   ·exact ⟨Nat.le_refl _, by omega, by show (0 : Int) < 100; omega⟩
theorem tok_at {l : List UInt8} {i : Nat} (h : i < l.length) : TokAt l i (tokG l i) := by
 rw [<- tok_eq h]
 unfold tokP
 split
 ·exact iri_at h
 split
 ·exact label_at h
 split
 ·exact quote_at h
 split
 ·exact at_at h
 split
 ·exact numTok_at h
 split
 ·exact ⟨rfl, ⟨_, rfl, by omega, by omega⟩, by show (1 : Int) <= 8; omega, by show (8 : Int) <= 8; omega⟩
 split
 ·next hc => exact ⟨rfl, ⟨_, rfl, by omega, by omega⟩, by show (1 : Int) <= 8; omega, by show (8 : Int) <= 8; omega⟩
 ·exact name_at h
theorem gap_le {l : List UInt8} {i : Nat} (h : i <= l.length) : i <= gapF l i /\ gapF l i <= l.length := gapF_bound l l.length i (by omega) h
def NextAt (l : List UInt8) (i : Nat) : TokR -> Prop
 | .inl t => (t = ⟨0, [], [], [], (l.length : Nat), (l.length : Nat)⟩ /\ gapF l i = l.length) \/ (gapF l i < l.length /\ tokG l (gapF l i) = .inl t /\ TokAt l (gapF l i) (.inl t) /\ t.text.length <= 65536 /\ t.loc.length <= 65536)
 | .inr (p, n) => i <= p /\ p <= l.length /\ 0 < n
theorem next_at {l : List UInt8} {i : Nat} (h : i <= l.length) : NextAt l i (nextG l i) := by
 have hg := gap_le h
 unfold nextG
 by_cases he : gapF l i = l.length
 ·rw [if_pos he, he]; exact .inl ⟨rfl, he⟩
 ·rw [if_neg he]
  have ht := tok_at (l := l) (i := gapF l i) (by omega)
  obtain ⟨x, hx⟩ : ∃ x, tokG l (gapF l i) = x := ⟨_, rfl⟩
  rw [hx] at ht ⊢
  rcases x with t | ⟨p, n⟩
  ·simp only
   split
   ·exact ⟨hg.1, hg.2, by show (0 : Int) < 2; omega⟩
   ·next hn => exact .inr ⟨by omega, hx, ht, by omega, by omega⟩
  ·exact ⟨Nat.le_trans hg.1 ht.1, ht.2.1, ht.2.2⟩
theorem step_at {l : List UInt8} {less : Bool} {i : Nat} (h : i <= l.length) : (∀ t, stepG l less i = .inl t -> NextAt l i (.inl t) /\ (less = true -> t.kind ≠ 0)) /\ (∀ p n, stepG l less i = .inr (p, n) -> i <= p /\ p <= l.length /\ 0 < n) := by
 have hn := next_at h
 unfold stepG
 obtain ⟨x, hx⟩ : ∃ x, nextG l i = x := ⟨_, rfl⟩
 rw [hx] at hn ⊢
 rcases x with t | ⟨p, n⟩
 ·simp only
  refine ⟨fun t' e => ?_, fun p n e => ?_⟩
  ·split at e
   ·cases e
   ·next hc => cases e; exact ⟨hn, fun hl hk => hc ⟨hl, hk⟩⟩
  ·split at e
   ·cases e; exact ⟨h, Nat.le_refl _, by omega⟩
   ·cases e
 ·simp only
  refine ⟨fun t' e => ?_, fun p' n' e => ?_⟩
  ·split at e <;> cases e
  ·split at e
   ·cases e; exact ⟨h, Nat.le_refl _, by omega⟩
   ·cases e; exact hn
def toksF (l : List UInt8) (less : Bool) (i : Nat) : List TokL × Option (Nat × Int) := match stepG l less i with
 | .inr f => ([], some f)
 | .inl t => if _h : t.kind ≠ 0 /\ i < t.fin.toNat /\ i < l.length then (t :: (toksF l less t.fin.toNat).1, (toksF l less t.fin.toNat).2) else ([], none)
termination_by l.length - i
theorem toksF_bad {l : List UInt8} {less : Bool} {i : Nat} {f : Nat × Int} (h : stepG l less i = .inr f) : toksF l less i = ([], some f) := by rw [toksF, h]
theorem toksF_end {l : List UInt8} {less : Bool} {i : Nat} {t : TokL} (h : stepG l less i = .inl t) (hk : t.kind = 0) : toksF l less i = ([], none) := by rw [toksF, h]; simp only; rw [dif_neg (fun x => x.1 hk)]
theorem toksF_go {l : List UInt8} {less : Bool} {i : Nat} {t : TokL} (hi : i <= l.length) (h : stepG l less i = .inl t) (hk : t.kind ≠ 0) : toksF l less i = (t :: (toksF l less t.fin.toNat).1, (toksF l less t.fin.toNat).2) /\ i < t.fin.toNat /\ t.fin.toNat <= l.length /\ (t.fin.toNat : Int) = t.fin := by
 have hs := ((step_at (less := less) hi).1 t h).1
 rcases hs with ⟨rfl, _⟩ | ⟨hg, _, ⟨_, ⟨e, he, h1, h2⟩, _⟩, _⟩
 ·exact absurd rfl hk
 ·have hg2 := (gap_le hi).1
  have hb : i < t.fin.toNat /\ i < l.length := by rw [he]; simp; omega
  refine ⟨?_, hb.1, by rw [he]; simpa using h2, by rw [he]; simp⟩
  rw [toksF, h]
  simp only
  rw [dif_pos ⟨hk, hb⟩]
end Go.Proofs.YtdhmpakhdhdebaaGreatDoor
