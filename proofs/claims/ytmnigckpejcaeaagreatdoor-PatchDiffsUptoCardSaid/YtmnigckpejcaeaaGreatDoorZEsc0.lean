/-
  Scalars and their bytes; texts written with escapes, and read back: the plain words. No program in sight. By an AI agent.
-/
import Derived.Test.YtmnigckpejcaeaaGreatDoorZGPlain
import Derived.Test.YtmnigckpejcaeaaGreatDoorZTerm0
namespace Go.Proofs.YtmnigckpejcaeaaGreatDoor
open Go.RowKit
set_option maxRecDepth 100000
def byU (r : Int) : List UInt8 := (bytesOf r).map fun x => UInt8.ofNat x.toNat
theorem byU_of_ints {r : Int} {b : List UInt8} (h : bytesOf r = ints b) : byU r = b := by
 unfold byU
 rw [h]
 unfold ints
 rw [List.map_map]
 conv => rhs; rw [<- List.map_id b]
 refine List.map_congr_left fun c _ => ?_
 simp
theorem nextFrom_take (r : List UInt8) : ∀ (k m : Nat) (v : Int) (n : Nat), nextFrom r k m = (v, n) -> n ≠ 0 -> 0 <= v /\ n <= r.length /\ guessV (r.take n) = v
 | 0, _, v, n, h, hn => by rw [nextFrom] at h; cases h; exact absurd rfl hn
 | k + 1, m, v, n, h, hn => by
   rw [nextFrom] at h
   split at h
   · split at h
     · next h1 h2 => cases h; exact ⟨h2, h1, rfl⟩
     · exact nextFrom_take r k (m + 1) v n h hn
   · cases h; exact absurd rfl hn
theorem nextP_bytes {r : List UInt8} {v : Int} {n : Nat} (h : nextP r = (v, n)) (hn : n ≠ 0) : byU v = r.take n /\ scal v = true := by
 rw [<- next_eq] at h
 obtain ⟨h1, _, h3⟩ := nextFrom_take r 4 1 v n h hn
 unfold guessV at h3
 split at h3
 · next hc =>
   rw [h3] at hc
   exact ⟨byU_of_ints hc.2, hc.1⟩
 · omega
theorem nextAt_bytes {l : List UInt8} {j n : Nat} {v : Int} (h : nextAt l (j : Int) = (v, n)) (hn : n ≠ 0) : byU v = (l.drop j).take n /\ scal v = true := by
 rw [nextAt_nat] at h
 exact nextP_bytes h hn
theorem B_get_drop {l : List UInt8} {j k : Nat} {c : UInt8} (h : (l.drop j)[k]? = some c) : j + k < (B l).size /\ ((B l).get! (j + k)).toNat = c.toNat := by
 rw [List.getElem?_drop] at h
 obtain ⟨h1, h2⟩ := List.getElem?_eq_some_iff.1 h
 refine ⟨by rw [B_size]; exact h1, ?_⟩
 have h3 : j + k < (B l).size := by rw [B_size]; exact h1
 have : (B l).get! (j + k) = (B l)[j + k] := by simp [ByteArray.get!, getElem!_pos, B, ByteArray.getElem_eq_getElem_data, h1]
 rw [this, B_get, h2]
theorem decode_next {l : List UInt8} {j n : Nat} {v : Int} (h : nextAt l (j : Int) = (v, n)) (hn : n ≠ 0) : Utf8.decode (B l) j = (v.toNat, n) := by
 rw [nextAt_nat] at h
 rcases hd : l.drop j with _ | ⟨c, t⟩
 · rw [hd, nextP] at h; cases h; exact absurd rfl hn
 have g0 : (l.drop j)[0]? = some c := by rw [hd]; rfl
 obtain ⟨s0, e0⟩ := B_get_drop g0
 rw [Nat.add_zero] at s0 e0
 rw [hd] at h
 by_cases c1 : c.toNat < 128
 · rw [nextP_1 c1] at h
   cases h
   unfold Utf8.decode
   simp only [Nat.add_zero, e0]
   rw [if_pos c1]
   simp
 by_cases c2 : c.toNat < 192
 · rw [nextP_none (.inl (by unfold leadN; simp [c1, c2]))] at h
   cases h; exact absurd rfl hn
 by_cases c3 : c.toNat < 224
 · have hl : leadN c.toNat = 2 := by unfold leadN; simp [c1, c2, c3]
   have hv : leadV c.toNat = (c.toNat : Int) % 32 := by unfold leadV; simp [c1, c2, c3]
   rcases t with _ | ⟨d, t⟩
   · rw [nextP_none (.inr (by rw [hl]; simp))] at h
     cases h; exact absurd rfl hn
   have g1 : (l.drop j)[1]? = some d := by rw [hd]; rfl
   obtain ⟨s1, e1⟩ := B_get_drop g1
   rw [nextP, if_neg (by rw [hl]; simp), hl, hv] at h
   simp only [Nat.add_one_sub_one, tailV] at h
   by_cases d1 : d.toNat / 64 = 2
   · rw [if_pos d1] at h
     simp only [finN] at h
     split at h
     · cases h; exact absurd rfl hn
     · next hc =>
       cases h
       rw [not_or] at hc
       obtain ⟨h5, h6⟩ := hc
       simp only [leastOf] at h5
       have h7 : scal ((c.toNat : Int) % 32 * 64 + (d.toNat : Int) % 64) = true := by simpa using h6
       unfold Utf8.decode
       simp only [Nat.add_zero, e0, e1]
       rw [if_neg c1, if_pos (by simp [s1, d1]; omega), if_pos (by simp at h5; omega)]
       congr 1 <;> omega
   · rw [if_neg d1] at h
     cases h; exact absurd rfl hn
 by_cases c4 : c.toNat < 240
 · have hl : leadN c.toNat = 3 := by unfold leadN; simp [c1, c2, c3, c4]
   have hv : leadV c.toNat = (c.toNat : Int) % 16 := by unfold leadV; simp [c1, c2, c3, c4]
   rcases t with _ | ⟨d, _ | ⟨e, t⟩⟩
   · rw [nextP_none (.inr (by rw [hl]; simp))] at h
     cases h; exact absurd rfl hn
   · rw [nextP_none (.inr (by rw [hl]; simp))] at h
     cases h; exact absurd rfl hn
   have g1 : (l.drop j)[1]? = some d := by rw [hd]; rfl
   have g2 : (l.drop j)[2]? = some e := by rw [hd]; rfl
   obtain ⟨s1, e1⟩ := B_get_drop g1
   obtain ⟨s2, e2⟩ := B_get_drop g2
   rw [nextP, if_neg (by rw [hl]; simp), hl, hv] at h
   simp only [Nat.reduceSub, tailV] at h
   by_cases d1 : d.toNat / 64 = 2
   · rw [if_pos d1] at h
     by_cases d2 : e.toNat / 64 = 2
     · rw [if_pos d2] at h
       simp only [finN] at h
       split at h
       · cases h; exact absurd rfl hn
       · next hc =>
         cases h
         rw [not_or] at hc
         obtain ⟨h5, h6⟩ := hc
         simp only [leastOf] at h5
         have h7 : scal (((c.toNat : Int) % 16 * 64 + (d.toNat : Int) % 64) * 64 + (e.toNat : Int) % 64) = true := by simpa using h6
         unfold scal at h7
         simp at h7
         unfold Utf8.decode
         simp only [Nat.add_zero, e0, e1, e2]
         rw [if_neg c1, if_neg (by simp; omega), if_pos (by simp [s1, s2, d1, d2]; omega), if_pos (by simp [Utf8.valid]; simp at h5; omega)]
         congr 1 <;> omega
     · rw [if_neg d2] at h
       cases h; exact absurd rfl hn
   · rw [if_neg d1] at h
     cases h; exact absurd rfl hn
 by_cases c5 : c.toNat < 248
 · have hl : leadN c.toNat = 4 := by unfold leadN; simp [c1, c2, c3, c4, c5]
   have hv : leadV c.toNat = (c.toNat : Int) % 8 := by unfold leadV; simp [c1, c2, c3, c4, c5]
   rcases t with _ | ⟨d, _ | ⟨e, _ | ⟨f, t⟩⟩⟩
   · rw [nextP_none (.inr (by rw [hl]; simp))] at h
     cases h; exact absurd rfl hn
   · rw [nextP_none (.inr (by rw [hl]; simp))] at h
     cases h; exact absurd rfl hn
   · rw [nextP_none (.inr (by rw [hl]; simp))] at h
     cases h; exact absurd rfl hn
   have g1 : (l.drop j)[1]? = some d := by rw [hd]; rfl
   have g2 : (l.drop j)[2]? = some e := by rw [hd]; rfl
   have g3 : (l.drop j)[3]? = some f := by rw [hd]; rfl
   obtain ⟨s1, e1⟩ := B_get_drop g1
   obtain ⟨s2, e2⟩ := B_get_drop g2
   obtain ⟨s3, e3⟩ := B_get_drop g3
   rw [nextP, if_neg (by rw [hl]; simp), hl, hv] at h
   simp only [Nat.reduceSub, tailV] at h
   by_cases d1 : d.toNat / 64 = 2
   · rw [if_pos d1] at h
     by_cases d2 : e.toNat / 64 = 2
     · rw [if_pos d2] at h
       by_cases d3 : f.toNat / 64 = 2
       · rw [if_pos d3] at h
         simp only [finN] at h
         split at h
         · cases h; exact absurd rfl hn
         · next hc =>
           cases h
           rw [not_or] at hc
           obtain ⟨h5, h6⟩ := hc
           simp only [leastOf] at h5
           have h7 : scal ((((c.toNat : Int) % 8 * 64 + (d.toNat : Int) % 64) * 64 + (e.toNat : Int) % 64) * 64 + (f.toNat : Int) % 64) = true := by simpa using h6
           unfold scal at h7
           simp at h7
           unfold Utf8.decode
           simp only [Nat.add_zero, e0, e1, e2, e3]
           rw [if_neg c1, if_neg (by simp; omega), if_neg (by simp; omega), if_pos (by simp [s1, s2, s3, d1, d2, d3]; omega), if_pos (by simp [Utf8.valid]; simp at h5; omega)]
           congr 1 <;> omega
       · rw [if_neg d3] at h
         cases h; exact absurd rfl hn
     · rw [if_neg d2] at h
       cases h; exact absurd rfl hn
   · rw [if_neg d1] at h
     cases h; exact absurd rfl hn
 · rw [nextP_none (.inl (by unfold leadN; simp [c1, c2, c3, c4, c5]))] at h
   cases h; exact absurd rfl hn
def hexU (n : Nat) : UInt8 := UInt8.ofNat (if n < 10 then 48 + n else 55 + n)
def digs4 (r : Nat) : List UInt8 := [hexU (r / 4096 % 16), hexU (r / 256 % 16), hexU (r / 16 % 16), hexU (r % 16)]
def letF (r : Int) : Option UInt8 := if r = 9 then some 116 else if r = 8 then some 98 else if r = 10 then some 110 else if r = 13 then some 114 else if r = 12 then some 102 else if r = 34 then some 34 else if r = 92 then some 92 else none
def badA : List Int := [60, 62, 34, 123, 125, 124, 94, 96, 92]
def wrF (way r : Int) : List UInt8 :=
 if way = 1 then (match letF r with
   | some c => [92, c]
   | none => if r < 32 \/ r = 127 then 92 :: 117 :: digs4 r.toNat else byU r)
 else if r <= 32 \/ r ∈ badA then 92 :: 117 :: digs4 r.toNat else byU r
theorem byU_len (r : Int) : (byU r).length <= 4 := by
 unfold byU
 rw [List.length_map, bytesOf_len]
 split <;> (try split) <;> (try split) <;> omega
theorem wrF_len (way r : Int) : (wrF way r).length <= 6 := by
 have := byU_len r
 unfold wrF
 split
 · split
   · simp
   · split
     · simp [digs4]
     · omega
 · split
   · simp [digs4]
   · omega
def escF (way : Int) (l : List UInt8) (j : Nat) : List UInt8 := if _h : l.length <= j then [] else if _h2 : (nextAt l j).2 = 0 then [] else wrF way (nextAt l j).1 ++ escF way l (j + (nextAt l j).2)
termination_by l.length - j
decreasing_by omega
theorem escF_end {way : Int} {l : List UInt8} {j : Nat} (h : l.length <= j) : escF way l j = [] := by rw [escF, dif_pos h]
theorem escF_go {way : Int} {l : List UInt8} {j n : Nat} {v : Int} (h : j < l.length) (hq : nextAt l (j : Int) = (v, n)) (hn : n ≠ 0) : escF way l j = wrF way v ++ escF way l (j + n) := by
 rw [escF, dif_neg (by omega), hq, dif_neg hn]
theorem escF_len (way : Int) (l : List UInt8) : ∀ (k j : Nat), l.length - j <= k -> (escF way l j).length <= 6 * (l.length - j)
 | k, j, hk => by
   by_cases h : l.length <= j
   · rw [escF_end h]; simp
   obtain ⟨v, n, hq⟩ : ∃ v n, nextAt l (j : Int) = (v, n) := ⟨_, _, rfl⟩
   by_cases hn : n = 0
   · subst hn
     rw [escF, dif_neg h, hq, dif_pos rfl]; simp
   · rw [escF_go (by omega) hq hn, List.length_append]
     have h1 := wrF_len way v
     match k, hk with
     | 0, hk => omega
     | k + 1, hk =>
       have h2 := escF_len way l k (j + n) (by omega)
       have h3 := (nextAt_bound hq hn).2.1
       have h4 : j + n <= l.length := by omega
       omega
def hexV (c : UInt8) : Option Nat := if 48 <= c.toNat /\ c.toNat <= 57 then some (c.toNat - 48) else if 97 <= c.toNat /\ c.toNat <= 102 then some (c.toNat - 87) else if 65 <= c.toNat /\ c.toNat <= 70 then some (c.toNat - 55) else none
theorem hexV_lt {c : UInt8} {d : Nat} (h : hexV c = some d) : d < 16 := by
 unfold hexV at h
 split at h
 · cases h; omega
 · split at h
   · cases h; omega
   · split at h
     · cases h; omega
     · cases h
def numV : Nat -> List UInt8 -> Nat -> Option Nat
 | acc, _, 0 => some acc
 | _, [], _ + 1 => none
 | acc, c :: t, n + 1 => match hexV c with
   | none => none
   | some d => numV (acc * 16 + d) t n
theorem numV_len : ∀ {n : Nat} {acc : Nat} {t : List UInt8} {v : Nat}, numV acc t n = some v -> n <= t.length /\ v < (acc + 1) * 16 ^ n
 | 0, acc, t, v, h => by rw [numV] at h; cases h; simp
 | n + 1, acc, [], v, h => by rw [numV] at h; cases h
 | n + 1, acc, c :: t, v, h => by
   rw [numV] at h
   cases hd : hexV c with
   | none => rw [hd] at h; cases h
   | some d =>
     rw [hd] at h
     obtain ⟨h1, h2⟩ := numV_len h
     have h3 := hexV_lt hd
     refine ⟨by simp; omega, Nat.lt_of_lt_of_le h2 ?_⟩
     rw [Nat.pow_succ, Nat.mul_comm (16 ^ n) 16, <- Nat.mul_assoc]
     exact Nat.mul_le_mul_right _ (by omega)
def numF (t : List UInt8) (k : Nat) : Option Int := match numV 0 t k with
 | none => none
 | some v => if scal v = true then some v else none
theorem numF_some {t : List UInt8} {k : Nat} {r : Int} (h : numF t k = some r) : k <= t.length /\ scal r = true := by
 unfold numF at h
 cases hv : numV 0 t k with
 | none => rw [hv] at h; cases h
 | some v =>
   rw [hv] at h
   simp only at h
   split at h
   · next hs => cases h; exact ⟨(numV_len hv).1, hs⟩
   · cases h
def meantF (c : UInt8) : Option Int := if c = 116 then some 9 else if c = 98 then some 8 else if c = 110 then some 10 else if c = 114 then some 13 else if c = 102 then some 12 else if c = 34 then some 34 else if c = 39 then some 39 else if c = 92 then some 92 else none
def pairN (k : Nat) : Option Int -> Int × Nat
 | none => (0, 0)
 | some r => (r, k)
def escN (way : Int) : List UInt8 -> Int × Nat
 | _ :: c :: t => if c = 117 then pairN 6 (numF t 4) else if c = 85 then pairN 10 (numF t 8) else if way = 1 then pairN 2 (meantF c) else (0, 0)
 | _ => (0, 0)
theorem pairN_some {k n : Nat} {o : Option Int} {v : Int} (h : pairN k o = (v, n)) (hn : n ≠ 0) : o = some v /\ n = k := by
 cases o with
 | none => rw [pairN] at h; cases h; exact absurd rfl hn
 | some r => rw [pairN] at h; cases h; exact ⟨rfl, rfl⟩
theorem meantF_scal {c : UInt8} {r : Int} (h : meantF c = some r) : scal r = true /\ r < 128 := by
 unfold meantF at h
 repeat' (first | (split at h; · cases h; exact ⟨by decide, by decide⟩) | cases h)
theorem escN_bound {way v : Int} {r : List UInt8} {n : Nat} (h : escN way r = (v, n)) (hn : n ≠ 0) : n <= r.length /\ scal v = true := by
 match r, h with
 | [], h => rw [escN] at h; cases h; exact absurd rfl hn; all_goals simp
 | [_], h => rw [escN] at h; cases h; exact absurd rfl hn; all_goals simp
 | _ :: c :: t, h =>
   rw [escN] at h
   split at h
   · obtain ⟨h1, rfl⟩ := pairN_some h hn
     have := numF_some h1
     exact ⟨by simp; omega, this.2⟩
   · split at h
     · obtain ⟨h1, rfl⟩ := pairN_some h hn
       have := numF_some h1
       exact ⟨by simp; omega, this.2⟩
     · split at h
       · obtain ⟨h1, rfl⟩ := pairN_some h hn
         exact ⟨by simp, (meantF_scal h1).1⟩
       · cases h; exact absurd rfl hn
def atF (way : Int) (l : List UInt8) (j : Nat) : (Int × Nat) × Int := if l.getD j 0 = 92 then (escN way (l.drop j), 41) else (nextAt l j, 40)
def unescF (way : Int) (l : List UInt8) (j : Nat) : List UInt8 ⊕ (Nat × Int) :=
 if _h : l.length <= j then .inl [] else if _h2 : (atF way l j).1.2 = 0 then .inr (j, (atF way l j).2) else putF (byU (atF way l j).1.1) (unescF way l (j + (atF way l j).1.2))
termination_by l.length - j
decreasing_by omega
theorem unescF_end {way : Int} {l : List UInt8} {j : Nat} (h : l.length <= j) : unescF way l j = .inl [] := by rw [unescF, dif_pos h]
theorem unescF_bad {way v e : Int} {l : List UInt8} {j : Nat} (h : j < l.length) (hq : atF way l j = ((v, 0), e)) : unescF way l j = .inr (j, e) := by
 rw [unescF, dif_neg (by omega), hq, dif_pos rfl]
theorem unescF_go {way v e : Int} {l : List UInt8} {j n : Nat} (h : j < l.length) (hq : atF way l j = ((v, n), e)) (hn : n ≠ 0) : unescF way l j = putF (byU v) (unescF way l (j + n)) := by
 rw [unescF, dif_neg (by omega), hq, dif_neg hn]
end Go.Proofs.YtmnigckpejcaeaaGreatDoor
namespace Go.Proofs.YtmnigckpejcaeaaGreatDoor
open Go.RowKit
set_option maxRecDepth 100000
def plainT : List UInt8 := [104, 116, 116, 112, 58, 47, 47, 119, 119, 119, 46, 119, 51, 46, 111, 114, 103, 47, 50, 48, 48, 49, 47, 88, 77, 76, 83, 99, 104, 101, 109, 97, 35, 115, 116, 114, 105, 110, 103]
def angF (t : List UInt8) : List UInt8 := 60 :: (escF 2 t 0 ++ [62])
def textF (t : TermL) : List UInt8 :=
 if t.kind = 1 then angF t.text else if t.kind = 2 then 95 :: 58 :: t.text
 else 34 :: (escF 1 t.text 0 ++ (34 :: (if t.lang ≠ [] then 64 :: t.lang else if t.type ≠ plainT then 94 :: 94 :: angF t.type else [])))
def textN (t : TermL) : List UInt8 × Int := if termN t ≠ 0 then ([], termN t) else (textF t, 0)
def lineF (q : QuadL) : List UInt8 := ([q.s, q.p, q.o, q.g].filter fun t => decide (t.kind ≠ 0)).flatMap (fun t => textF t ++ [32]) ++ [46]
def lineN (q : QuadL) : List UInt8 × Int := if quadN q ≠ 0 then ([], quadN q) else (lineF q, 0)
def gtF (l : List UInt8) (i : Nat) : Nat := if _h : l.length <= i then i else if l.getD i 0 = 62 then i else gtF l (i + 1)
termination_by l.length - i
theorem gtF_end {l : List UInt8} {i : Nat} (h : l.length <= i) : gtF l i = i := by rw [gtF, dif_pos h]
theorem gtF_hit {l : List UInt8} {i : Nat} (h : i < l.length) (hc : l.getD i 0 = 62) : gtF l i = i := by rw [gtF, dif_neg (by omega), if_pos hc]
theorem gtF_go {l : List UInt8} {i : Nat} (h : i < l.length) (hc : l.getD i 0 ≠ 62) : gtF l i = gtF l (i + 1) := by rw [gtF, dif_neg (by omega), if_neg hc]
theorem gtF_bound (l : List UInt8) : ∀ (k i : Nat), l.length - i <= k -> i <= l.length -> i <= gtF l i /\ gtF l i <= l.length
 | k, i, hk, hi => by
   by_cases h : l.length <= i
   · rw [gtF_end h]; omega
   by_cases hc : l.getD i 0 = 62
   · rw [gtF_hit (by omega) hc]; omega
   · rw [gtF_go (by omega) hc]
     match k, hk with
     | 0, hk => omega
     | k + 1, hk =>
       have := gtF_bound l k (i + 1) (by omega) (by omega)
       omega
def tagC (c : UInt8) : Bool := alphaC c || digC c || c == 45
def tagE (l : List UInt8) (i : Nat) : Nat := if _h : l.length <= i then i else if tagC (l.getD i 0) = true then tagE l (i + 1) else i
termination_by l.length - i
theorem tagE_end {l : List UInt8} {i : Nat} (h : l.length <= i) : tagE l i = i := by rw [tagE, dif_pos h]
theorem tagE_go {l : List UInt8} {i : Nat} (h : i < l.length) (hc : tagC (l.getD i 0) = true) : tagE l i = tagE l (i + 1) := by rw [tagE, dif_neg (by omega), if_pos hc]
theorem tagE_stop {l : List UInt8} {i : Nat} (h : i < l.length) (hc : tagC (l.getD i 0) = false) : tagE l i = i := by rw [tagE, dif_neg (by omega), if_neg (by rw [hc]; simp)]
theorem tagE_bound (l : List UInt8) : ∀ (k i : Nat), l.length - i <= k -> i <= l.length -> i <= tagE l i /\ tagE l i <= l.length
 | k, i, hk, hi => by
   by_cases h : l.length <= i
   · rw [tagE_end h]; omega
   cases hc : tagC (l.getD i 0) with
   | false => rw [tagE_stop (by omega) hc]; omega
   | true =>
     rw [tagE_go (by omega) hc]
     match k, hk with
     | 0, hk => omega
     | k + 1, hk =>
       have := tagE_bound l k (i + 1) (by omega) (by omega)
       omega
def closeF (l : List UInt8) (i : Nat) (slash : Bool) : Nat ⊕ (Nat × Int) :=
 if _h : l.length <= i then .inr (l.length, 90) else if l.getD i 0 = 10 \/ l.getD i 0 = 13 then .inr (i, 90)
 else if slash = true then closeF l (i + 1) false else if l.getD i 0 = 92 then closeF l (i + 1) true else if l.getD i 0 = 34 then .inl i else closeF l (i + 1) false
termination_by l.length - i
theorem closeF_end {l : List UInt8} {i : Nat} {s : Bool} (h : l.length <= i) : closeF l i s = .inr (l.length, 90) := by rw [closeF, dif_pos h]
theorem closeF_line {l : List UInt8} {i : Nat} {s : Bool} (h : i < l.length) (hc : l.getD i 0 = 10 \/ l.getD i 0 = 13) : closeF l i s = .inr (i, 90) := by rw [closeF, dif_neg (by omega), if_pos hc]
theorem closeF_behind {l : List UInt8} {i : Nat} (h : i < l.length) (hc : ¬ (l.getD i 0 = 10 \/ l.getD i 0 = 13)) : closeF l i true = closeF l (i + 1) false := by rw [closeF, dif_neg (by omega), if_neg hc, if_pos rfl]
theorem closeF_slash {l : List UInt8} {i : Nat} (h : i < l.length) (hc : l.getD i 0 = 92) : closeF l i false = closeF l (i + 1) true := by
 rw [closeF, dif_neg (by omega), if_neg (by rw [hc]; decide), if_neg (by simp), if_pos hc]
theorem closeF_quote {l : List UInt8} {i : Nat} (h : i < l.length) (hc : l.getD i 0 = 34) : closeF l i false = .inl i := by
 rw [closeF, dif_neg (by omega), if_neg (by rw [hc]; decide), if_neg (by simp), if_neg (by rw [hc]; decide), if_pos hc]
theorem closeF_go {l : List UInt8} {i : Nat} (h : i < l.length) (h1 : ¬ (l.getD i 0 = 10 \/ l.getD i 0 = 13)) (h2 : l.getD i 0 ≠ 92) (h3 : l.getD i 0 ≠ 34) : closeF l i false = closeF l (i + 1) false := by
 rw [closeF, dif_neg (by omega), if_neg h1, if_neg (by simp), if_neg h2, if_neg h3]
theorem closeF_bound (l : List UInt8) : ∀ (k i : Nat) (s : Bool) (e : Nat), l.length - i <= k -> closeF l i s = .inl e -> i <= e /\ e < l.length /\ l.getD e 0 = 34
 | k, i, s, e, hk, hq => by
   by_cases h : l.length <= i
   · rw [closeF_end h] at hq; cases hq
   by_cases h1 : l.getD i 0 = 10 \/ l.getD i 0 = 13
   · rw [closeF_line (by omega) h1] at hq; cases hq
   have step : ∀ s', closeF l (i + 1) s' = .inl e -> i <= e /\ e < l.length /\ l.getD e 0 = 34 := fun s' h' => by
     match k, hk with
     | 0, hk => omega
     | k + 1, hk =>
       have := closeF_bound l k (i + 1) s' e (by omega) h'
       exact ⟨by omega, this.2⟩
   cases s with
   | true => rw [closeF_behind (by omega) h1] at hq; exact step _ hq
   | false =>
     by_cases h2 : l.getD i 0 = 92
     · rw [closeF_slash (by omega) h2] at hq; exact step _ hq
     by_cases h3 : l.getD i 0 = 34
     · rw [closeF_quote (by omega) h3] at hq; cases hq; exact ⟨Nat.le_refl _, by omega, h3⟩
     · rw [closeF_go (by omega) h1 h2 h3] at hq; exact step _ hq
def cutF (l : List UInt8) (a b : Nat) : List UInt8 := (l.drop a).take (b - a)
theorem cutF_len (l : List UInt8) (a b : Nat) : (cutF l a b).length <= l.length := by unfold cutF; simp; omega
def iriAt (l : List UInt8) (i : Nat) : (List UInt8 × Nat) ⊕ (Nat × Int) :=
 if l.getD i 0 ≠ 60 then .inr (i, 90) else if l.length <= gtF l (i + 1) then .inr (l.length, 90)
 else match unescF 2 (cutF l (i + 1) (gtF l (i + 1))) 0 with
 | .inr (p, e) => .inr (i + 1 + p, e)
 | .inl t => if iriN t ≠ 0 then .inr (i, iriN t) else .inl (t, gtF l (i + 1) + 1)
def tagAt (l : List UInt8) (i : Nat) : (List UInt8 × Nat) ⊕ (Nat × Int) :=
 if 65536 < (cutF l (i + 1) (tagE l (i + 1))).length then .inr (i, 2) else if (tagF (cutF l (i + 1) (tagE l (i + 1)))).isNone = true then .inr (i + 1, 61)
 else .inl (lowL (cutF l (i + 1) (tagE l (i + 1))), tagE l (i + 1))
def behindF (l : List UInt8) (t : List UInt8) (e : Nat) : (TermL × Nat) ⊕ (Nat × Int) :=
 if l.getD e 0 = 64 then (match tagAt l e with
   | .inr f => .inr f
   | .inl (lang, n) => .inl (⟨3, t, tagged, lang⟩, n))
 else if l.getD e 0 = 94 /\ l.getD (e + 1) 0 = 94 then (match iriAt l (e + 2) with
   | .inr f => .inr f
   | .inl (ty, n) => if ty = tagged then .inr (e, 71) else .inl (⟨3, t, ty, []⟩, n))
 else .inl (⟨3, t, plainT, []⟩, e)
def litAt (l : List UInt8) (i : Nat) : (TermL × Nat) ⊕ (Nat × Int) := match closeF l (i + 1) false with
 | .inr f => .inr f
 | .inl e => match unescF 1 (cutF l (i + 1) e) 0 with
   | .inr (p, c) => .inr (i + 1 + p, c)
   | .inl t => if 65536 < t.length then .inr (i, 2) else behindF l t (e + 1)
def blankAt (l : List UInt8) (i : Nat) : (TermL × Nat) ⊕ (Nat × Int) :=
 if l.getD (i + 1) 0 ≠ 58 then .inr (i + 1, 90) else if runF labelB l (i + 2 : Nat) = 0 then .inr (i + 2, 60) else if 65536 < runF labelB l (i + 2 : Nat) then .inr (i, 2)
 else .inl (⟨2, cutF l (i + 2) (i + 2 + runF labelB l (i + 2 : Nat)), [], []⟩, i + 2 + runF labelB l (i + 2 : Nat))
def termAt (l : List UInt8) (i : Nat) : (TermL × Nat) ⊕ (Nat × Int) :=
 if l.getD i 0 = 60 then (match iriAt l i with
   | .inr f => .inr f
   | .inl (t, n) => .inl (⟨1, t, [], []⟩, n))
 else if l.getD i 0 = 34 then litAt l i else if l.getD i 0 = 95 then blankAt l i else .inr (i, 90)
def blkF (l : List UInt8) (i : Nat) : Nat := if _h : l.length <= i then i else if l.getD i 0 = 32 \/ l.getD i 0 = 9 then blkF l (i + 1) else i
termination_by l.length - i
theorem blkF_end {l : List UInt8} {i : Nat} (h : l.length <= i) : blkF l i = i := by rw [blkF, dif_pos h]
theorem blkF_go {l : List UInt8} {i : Nat} (h : i < l.length) (hc : l.getD i 0 = 32 \/ l.getD i 0 = 9) : blkF l i = blkF l (i + 1) := by rw [blkF, dif_neg (by omega), if_pos hc]
theorem blkF_stop {l : List UInt8} {i : Nat} (h : i < l.length) (hc : ¬ (l.getD i 0 = 32 \/ l.getD i 0 = 9)) : blkF l i = i := by rw [blkF, dif_neg (by omega), if_neg hc]
theorem blkF_bound (l : List UInt8) : ∀ (k i : Nat), l.length - i <= k -> i <= l.length -> i <= blkF l i /\ blkF l i <= l.length
 | k, i, hk, hi => by
   by_cases h : l.length <= i
   · rw [blkF_end h]; omega
   by_cases hc : l.getD i 0 = 32 \/ l.getD i 0 = 9
   · rw [blkF_go (by omega) hc]
     match k, hk with
     | 0, hk => omega
     | k + 1, hk =>
       have := blkF_bound l k (i + 1) (by omega) (by omega)
       omega
   · rw [blkF_stop (by omega) hc]; omega
def slotF (l : List UInt8) (i : Nat) (signs : List UInt8) : (TermL × Nat) ⊕ (Nat × Int) :=
 if i < l.length /\ l.getD i 0 ∈ signs then (match termAt l i with
   | .inr f => .inr f
   | .inl (t, n) => .inl (t, blkF l n))
 else .inr (i, 90)
def stmtF (l : List UInt8) (i : Nat) : (QuadL × Nat) ⊕ (Nat × Int) := match slotF l i [60, 95] with
 | .inr f => .inr f
 | .inl (s, i1) => match slotF l i1 [60] with
   | .inr f => .inr f
   | .inl (p, i2) => match slotF l i2 [60, 95, 34] with
     | .inr f => .inr f
     | .inl (o, i3) => if l.getD i3 0 = 46 then .inl (⟨s, p, o, noTerm⟩, i3 + 1) else match slotF l i3 [60, 95] with
       | .inr f => .inr f
       | .inl (g, i4) => if l.getD i4 0 = 46 then .inl (⟨s, p, o, g⟩, i4 + 1) else .inr (i4, 90)
def restF' (l : List UInt8) (i : Nat) : Option (Nat × Int) :=
 if l.length <= blkF l i then none else if l.getD (blkF l i) 0 ≠ 35 then some (blkF l i, 90)
 else if 0 <= utfF (l.drop (blkF l i)) 0 then some (blkF l i + (utfF (l.drop (blkF l i)) 0).toNat, 40) else none
def lineAt (l : List UInt8) : Option QuadL ⊕ (Nat × Int) :=
 if blkF l 0 < l.length /\ l.getD (blkF l 0) 0 ≠ 35 then (match stmtF l (blkF l 0) with
   | .inr f => .inr f
   | .inl (q, n) => match restF' l n with
     | some f => .inr f
     | none => .inl (some q))
 else match restF' l 0 with
 | some f => .inr f
 | none => .inl none
end Go.Proofs.YtmnigckpejcaeaaGreatDoor
namespace Go.Proofs.YtmnigckpejcaeaaGreatDoor
set_option maxRecDepth 100000
def partsF (q : QuadL) (k : Nat) : List UInt8 := ((([q.s, q.p, q.o, q.g].take k).filter fun t => decide (t.kind ≠ 0)).flatMap fun t => textF t ++ [32])
theorem partsF_add (t : TermL) (l : List TermL) : (((l ++ [t]).filter fun t => decide (t.kind ≠ 0)).flatMap fun t => textF t ++ [32]) = ((l.filter fun t => decide (t.kind ≠ 0)).flatMap fun t => textF t ++ [32]) ++ (if t.kind = 0 then [] else textF t ++ [32]) := by
 rw [List.filter_append, List.flatMap_append]
 congr 1
 by_cases h : t.kind = 0
 · simp [h]
 · simp [h]
theorem partsF_1 (q : QuadL) : partsF q (0 + 1) = partsF q 0 ++ (if q.s.kind = 0 then [] else textF q.s ++ [32]) := partsF_add q.s []
theorem partsF_2 (q : QuadL) : partsF q (1 + 1) = partsF q 1 ++ (if q.p.kind = 0 then [] else textF q.p ++ [32]) := partsF_add q.p [q.s]
theorem partsF_3 (q : QuadL) : partsF q (2 + 1) = partsF q 2 ++ (if q.o.kind = 0 then [] else textF q.o ++ [32]) := partsF_add q.o [q.s, q.p]
theorem partsF_4 (q : QuadL) : partsF q (3 + 1) = partsF q 3 ++ (if q.g.kind = 0 then [] else textF q.g ++ [32]) := partsF_add q.g [q.s, q.p, q.o]
theorem lineF_parts (q : QuadL) : lineF q = partsF q 4 ++ [46] := rfl
theorem textF_le {t : TermL} (h1 : t.text.length <= 1048576) (h2 : t.type.length <= 1048576) (h3 : t.lang.length <= 1048576) : (textF t).length <= 13631504 := by
 have e1 := escF_len 1 t.text t.text.length 0 (by omega)
 have e2 := escF_len 2 t.text t.text.length 0 (by omega)
 have e3 := escF_len 2 t.type t.type.length 0 (by omega)
 unfold textF angF
 split
 · simp; omega
 · split
   · simp; omega
   · split
     · simp; omega
     · split
       · simp; omega
       · simp; omega
theorem partsF_le (q : QuadL) (k : Nat) (h : ∀ t, (t = q.s \/ t = q.p \/ t = q.o \/ t = q.g) -> (textF t).length <= 13631504) : (partsF q k).length <= 54526020 := by
 have key : ∀ (M : Nat) (l : List TermL), (∀ t ∈ l, (textF t).length <= M) -> (((l.filter fun t => decide (t.kind ≠ 0)).flatMap fun t => textF t ++ [32])).length <= l.length * (M + 1) := by
   intro M l
   induction l with
   | nil => intro _; simp
   | cons a r ih =>
     intro hl
     have h1 := hl a (List.mem_cons_self ..)
     have h2 := ih fun t ht => hl t (List.mem_cons_of_mem _ ht)
     rw [List.length_cons, Nat.succ_mul]
     by_cases hk : a.kind = 0
     · rw [List.filter_cons_of_neg (by simp [hk])]
       omega
     · rw [List.filter_cons_of_pos (by simp [hk]), List.flatMap_cons, List.length_append, List.length_append, List.length_singleton]
       omega
 have h1 := key 13631504 ([q.s, q.p, q.o, q.g].take k) (fun t ht => h t (by have := List.mem_of_mem_take ht; simpa using this))
 have h2 : ([q.s, q.p, q.o, q.g].take k).length <= 4 := by rw [List.length_take]; exact Nat.le_trans (Nat.min_le_right _ _) (Nat.le_refl 4)
 have h3 := Nat.mul_le_mul_right (13631504 + 1) h2
 have h4 := Nat.le_trans h1 h3
 unfold partsF
 exact h4
theorem lineF_le {q : QuadL} (h : ∀ t, (t = q.s \/ t = q.p \/ t = q.o \/ t = q.g) -> t.text.length <= 1048576 /\ t.type.length <= 1048576 /\ t.lang.length <= 1048576) : (lineF q).length <= 54526021 := by
 have := partsF_le q 4 (fun t ht => textF_le (h t ht).1 (h t ht).2.1 (h t ht).2.2)
 rw [lineF_parts, List.length_append]
 simp
 omega
theorem quad_term_ok {q : QuadL} (h : quadN q = 0) (t : TermL) (ht : t = q.s \/ t = q.p \/ t = q.o \/ t = q.g) (hk : t.kind ≠ 0) : termN t = 0 := by
 unfold quadN at h
 split at h
 · omega
 split at h
 · next h2 => exact absurd h h2
 next hs =>
 split at h
 · omega
 split at h
 · next h2 => exact absurd h h2
 next hp =>
 split at h
 · omega
 split at h
 · next h2 => exact absurd h h2
 next ho =>
 rcases ht with rfl | rfl | rfl | rfl
 · simpa using hs
 · simpa using hp
 · simpa using ho
 · split at h
   · next h2 => rw [h2] at hk; exact absurd rfl hk
   split at h
   · omega
   · exact h
end Go.Proofs.YtmnigckpejcaeaaGreatDoor
