/-
  lexis.word, piece, local: contracts. By an AI agent.
-/
import Derived.Test.YtdhmpakhdhdebaaGreatDoorZLexW1
import Derived.Test.YtdhmpakhdhdebaaGreatDoorShelf
namespace Go.Proofs
open Go.Shelf
def Tryz.lays152_ren : Go.Shelf.Ren := ⟨fun | 152 => 93 | 137 => 72 | 119 => 139 | 224 => 140 | 225 => 141 | 217 => 104 | 266 => 152 | n => n, fun | 9 => 9 | 21 => 21 | 3 => 3 | 4 => 4 | 5 => 5 | 0 => 0 | 46 => 145 | n => n, fun | n => n⟩
theorem Tryz.lays152 : Go.Proofs.Lays.n152 Tryz.prog Tryz.lays152_ren := {
  mixed := by kernel_rfl
  f119 := Tryz.func139.trans (congrArg some (by kernel_rfl))
  f137 := Tryz.func72.trans (congrArg some (by kernel_rfl))
  f152 := Tryz.func93.trans (congrArg some (by kernel_rfl))
  f217 := Tryz.func104.trans (congrArg some (by kernel_rfl))
  f224 := Tryz.func140.trans (congrArg some (by kernel_rfl))
  f225 := Tryz.func141.trans (congrArg some (by kernel_rfl))
  f266 := Tryz.func152.trans (congrArg some (by kernel_rfl))
  t0 := Tryz.underlying0
  a0 := Tryz.isAgg0
  z0 := Tryz.sizeOf0
  v0 := Tryz.zeroValue0
  t3 := Tryz.underlying3
  a3 := Tryz.isAgg3
  z3 := Tryz.sizeOf3
  v3 := Tryz.zeroValue3
  t4 := Tryz.underlying4
  a4 := Tryz.isAgg4
  z4 := Tryz.sizeOf4
  v4 := Tryz.zeroValue4
  t5 := Tryz.underlying5
  a5 := Tryz.isAgg5
  z5 := Tryz.sizeOf5
  v5 := Tryz.zeroValue5
  t9 := Tryz.underlying9
  a9 := Tryz.isAgg9
  z9 := Tryz.sizeOf9
  v9 := Tryz.zeroValue9
  t21 := Tryz.underlying21
  a21 := Tryz.isAgg21
  z21 := Tryz.sizeOf21
  v21 := Tryz.zeroValue21
  t46 := Tryz.underlying145
  a46 := Tryz.isAgg145
  z46 := Tryz.sizeOf145
  v46 := Tryz.zeroValue145 }
open Go.RowKit Go.Lib in
theorem Tryz.strings_IndexRune_ascii (s : ByteArray) (r : Int) (w : World) (h0 : 0 ≤ r) (h1 : r < 128) :
    Calls Tryz.prog 93 #[.string s, .int .i32 r] w fun e w' => e = .returned (.int .i64 (Lib.indexByte s.data.toList r.toNat.toUInt8)) ∧ w' = w := Any.strings_IndexRune_ascii Tryz.lays152 s r w h0 h1
def Tryz.lays153_ren : Go.Shelf.Ren := ⟨fun | 153 => 65 | 152 => 93 | 226 => 94 | 227 => 95 | 228 => 96 | 137 => 72 | 119 => 139 | 224 => 140 | 225 => 141 | 217 => 104 | 266 => 152 | n => n, fun | 9 => 9 | 3 => 3 | 4 => 4 | 5 => 5 | 21 => 21 | 117 => 186 | 116 => 185 | 0 => 0 | 46 => 145 | 124 => 215 | n => n, fun | n => n⟩
theorem Tryz.lays153 : Go.Proofs.Lays.n153 Tryz.prog Tryz.lays153_ren := {
  mixed := by kernel_rfl
  f119 := Tryz.func139.trans (congrArg some (by kernel_rfl))
  f137 := Tryz.func72.trans (congrArg some (by kernel_rfl))
  f152 := Tryz.func93.trans (congrArg some (by kernel_rfl))
  f153 := Tryz.func65.trans (congrArg some (by kernel_rfl))
  f217 := Tryz.func104.trans (congrArg some (by kernel_rfl))
  f224 := Tryz.func140.trans (congrArg some (by kernel_rfl))
  f225 := Tryz.func141.trans (congrArg some (by kernel_rfl))
  f226 := Tryz.func94.trans (congrArg some (by kernel_rfl))
  f227 := Tryz.func95.trans (congrArg some (by kernel_rfl))
  f228 := Tryz.func96.trans (congrArg some (by kernel_rfl))
  f266 := Tryz.func152.trans (congrArg some (by kernel_rfl))
  t0 := Tryz.underlying0
  a0 := Tryz.isAgg0
  z0 := Tryz.sizeOf0
  v0 := Tryz.zeroValue0
  t3 := Tryz.underlying3
  a3 := Tryz.isAgg3
  z3 := Tryz.sizeOf3
  v3 := Tryz.zeroValue3
  t4 := Tryz.underlying4
  a4 := Tryz.isAgg4
  z4 := Tryz.sizeOf4
  v4 := Tryz.zeroValue4
  t5 := Tryz.underlying5
  a5 := Tryz.isAgg5
  z5 := Tryz.sizeOf5
  v5 := Tryz.zeroValue5
  t9 := Tryz.underlying9
  a9 := Tryz.isAgg9
  z9 := Tryz.sizeOf9
  v9 := Tryz.zeroValue9
  t21 := Tryz.underlying21
  a21 := Tryz.isAgg21
  z21 := Tryz.sizeOf21
  v21 := Tryz.zeroValue21
  t46 := Tryz.underlying145
  a46 := Tryz.isAgg145
  z46 := Tryz.sizeOf145
  v46 := Tryz.zeroValue145
  t116 := Tryz.underlying185
  a116 := Tryz.isAgg185
  z116 := Tryz.sizeOf185
  t117 := Tryz.underlying186
  a117 := Tryz.isAgg186
  z117 := Tryz.sizeOf186
  v117 := Tryz.zeroValue186
  t124 := Tryz.underlying215
  a124 := Tryz.isAgg215
  z124 := Tryz.sizeOf215
  v124 := Tryz.zeroValue215 }
open Go.RowKit Go.Lib in
theorem Tryz.strings_IndexAny_long (hv116 : ∀ w, (zeroValue 185).run Tryz.prog w = .ok (.agg (Array.replicate 256 (.bool false))) w) (s chars : ByteArray) (w : World) (h2 : 2 ≤ chars.size) (h8 : 8 < s.size) (hs : s.size < 4294967281) (hcs : chars.size < 4294967281) (hascii : ∀ (j : Nat) b, chars.data.toList[j]? = some b → b.toNat < 128) :
    Calls Tryz.prog 65 #[.string s, .string chars] w fun e w' => e = .returned (.int .i64 (Lib.indexAny s.data.toList chars.data.toList)) ∧ w' = ((w.alloc (.cells (Lib.setCells chars.data.toList) 185)).alloc (.cells (Lib.setCells chars.data.toList) 185)) := Any.strings_IndexAny_long Tryz.lays153 hv116 (by kernel_rfl) s chars w h2 h8 hs hcs hascii
end Go.Proofs
namespace Go.Proofs.YtdhmpakhdhdebaaGreatDoor
open Go.Lib (hid)
open Go.RowKit
set_option maxRecDepth 100000
set_option maxHeartbeats 3200000 in
theorem lexWord_l (l : List UInt8) (i : Nat) (d : Bool) (w : World) (hi : i <= l.length) (hl : l.length <= 16777216) (hT : TabAt w) : Calls Tryz.prog 106 #[.string (B l), .int .i64 (i : Int), .bool d] w fun e w' => e = .returned (.int .i64 ((wordE l d i - i : Nat) : Int)) /\ Below w.heap.size w w' := by
 have NX := hid (fun (k : Nat) (hk : k <= l.length) (u : World) => next_l l (k : Int) u (by omega) (by omega))
 have FO := hid (fun (v : Int) (hs : scal v = true) (u : World) (hb : Below w.heap.size w u) => follows_l v hs u (hT.below hb))
 have HB0 : Hid (Below w.heap.size w w) := hid (Below.refl _ _)
 clear hT
 go_enter Tryz.func106, Tryz.ntmps106
 go_wp2
 go_loopw [1] (fun z wr => ∃ k : Nat, z = .int .i64 (k : Int) /\ i <= k /\ k <= l.length /\ Hid (wordE l d k = wordE l d i) /\ Hid (Below w.heap.size w wr)) (fun z _ => l.length - (intOf z).toNat)
 case atStart => exact ⟨i, rfl, Nat.le_refl _, hi, hid rfl, HB0⟩
 case round =>
  obtain ⟨k, rfl, hik, hk, HE, HB⟩ := hrel
  obtain ⟨W0, hW0⟩ : ∃ W0 : World, W0 = wr := ⟨_, rfl⟩
  subst hW0
  have N1 := hid (NX.out k hk W0)
  obtain ⟨⟨v, n⟩, hq⟩ : ∃ q, nextAt l (k : Int) = q := ⟨_, rfl⟩
  rw [hq] at N1
  have N2 : Hid (Calls Tryz.prog 40 #[.string (B l), .int .i64 (k : Int)] W0 fun e w' => e = .returned (.tuple #[.int .i32 v, .int .i64 (n : Int)]) /\ w' = W0) := N1
  clear N1 HB0
  have WS : IntKind.i64.wrap ((k : Int) - (i : Int)) = (k : Int) - (i : Int) := IntWalk.i64_in _ (by omega)
  by_cases hn : n = 0
  ·subst hn
   have HR : Hid (((wordE l d i - i : Nat) : Int) = (k : Int) - (i : Int)) := hid (by rw [<- HE.out, wordE_stop hq (.inl rfl)]; omega)
   clear hq HE
   go_wp2_with (go_at_call 40; (with_reducible refine N2.out.mono ?_); rintro e w1 ⟨rfl, rfl⟩)
   go_ret
   exact ⟨by rw [HR.out]; rfl, HB.out⟩
  have hs := (nextAt_bytes hq hn).2
  have hb := nextAt_bound hq hn
  have F1 := hid (FO.out v hs W0 HB.out)
  have WA : IntKind.i64.wrap ((k : Int) + (n : Int)) = (k : Int) + (n : Int) := IntWalk.i64_in _ (by omega)
  have kn : ((n : Int) == 0) = false := beq_eq_false_iff_ne.2 (by omega)
  have HG : Hid (wordE l d i = wordE l d k) := hid HE.out.symm
  clear HE NX FO
  have goes : (followB v = true) \/ (followB v = false /\ d = true /\ v = 46) \/ (followB v = false /\ ¬ (d = true /\ v = 46)) := by
   cases hf : followB v with
   | true => exact .inl rfl
   | false =>
    by_cases h : d = true /\ v = 46
    ·exact .inr (.inl ⟨rfl, h.1, h.2⟩)
    ·exact .inr (.inr ⟨rfl, h⟩)
  rcases goes with hf | ⟨hf, rfl, rfl⟩ | ⟨hf, hd⟩
  ·have HN : Hid (wordE l d (k + n) = wordE l d i) := hid (by rw [HG.out, wordE_go hq (by rw [hf]; simp; omega)])
   rw [hf] at F1
   clear HG hf
   go_wp2_with (first | (go_at_call 40; (with_reducible refine N2.out.mono ?_); rintro e w1 ⟨rfl, hw⟩; rw [hw]; clear hw) | (go_at_call 153; (with_reducible refine F1.out.mono ?_); rintro e w2 ⟨rfl, hb2⟩; have HB2 := hid (HB.out.trans (hb2.mono HB.out.size)); clear hb2))
   go_roundw
   case rel => exact ⟨k + n, by go_num, by omega, by omega, HN, HB2⟩
   case measure => simp [intOf]; omega
  ·have HN : Hid (wordE l true (k + n) = wordE l true i) := hid (by rw [HG.out, wordE_go hq (by rw [hf]; simp; omega)])
   rw [hf] at F1
   clear HG hf
   go_wp2_with (first | (go_at_call 40; (with_reducible refine N2.out.mono ?_); rintro e w1 ⟨rfl, hw⟩; rw [hw]; clear hw) | (go_at_call 153; (with_reducible refine F1.out.mono ?_); rintro e w2 ⟨rfl, hb2⟩; have HB2 := hid (HB.out.trans (hb2.mono HB.out.size)); clear hb2))
   go_roundw
   case rel => exact ⟨k + n, by go_num, by omega, by omega, HN, HB2⟩
   case measure => simp [intOf]; omega
  ·have HR : Hid (((wordE l d i - i : Nat) : Int) = (k : Int) - (i : Int)) := hid (by rw [HG.out, wordE_stop hq (.inr ⟨hf, hd⟩)]; omega)
   rw [hf] at F1
   clear HG hf
   have dv : d = false \/ (d = true /\ (v != 46) = true) := by
    cases d with
    | false => exact .inl rfl
    | true => exact .inr ⟨rfl, bne_iff_ne.2 (fun h => hd ⟨rfl, h⟩)⟩
   clear hd
   rcases dv with rfl | ⟨rfl, kv⟩
   ·by_cases h46 : v = 46
    ·subst h46
     go_wp2_with (first | (go_at_call 40; (with_reducible refine N2.out.mono ?_); rintro e w1 ⟨rfl, hw⟩; rw [hw]; clear hw) | (go_at_call 153; (with_reducible refine F1.out.mono ?_); rintro e w2 ⟨rfl, hb2⟩; have HB2 := hid (HB.out.trans (hb2.mono HB.out.size)); clear hb2))
     go_ret
     exact ⟨by rw [HR.out]; rfl, HB2.out⟩
    ·have kv : (v != 46) = true := bne_iff_ne.2 h46
     clear h46
     go_wp2_with (first | (go_at_call 40; (with_reducible refine N2.out.mono ?_); rintro e w1 ⟨rfl, hw⟩; rw [hw]; clear hw) | (go_at_call 153; (with_reducible refine F1.out.mono ?_); rintro e w2 ⟨rfl, hb2⟩; have HB2 := hid (HB.out.trans (hb2.mono HB.out.size)); clear hb2))
     go_ret
     exact ⟨by rw [HR.out]; rfl, HB2.out⟩
   ·go_wp2_with (first | (go_at_call 40; (with_reducible refine N2.out.mono ?_); rintro e w1 ⟨rfl, hw⟩; rw [hw]; clear hw) | (go_at_call 153; (with_reducible refine F1.out.mono ?_); rintro e w2 ⟨rfl, hb2⟩; have HB2 := hid (HB.out.trans (hb2.mono HB.out.size)); clear hb2))
    go_ret
    exact ⟨by rw [HR.out]; rfl, HB2.out⟩
theorem lexLoc_ok (x c : List UInt8) (hx : x.length <= 140737488351232) (h : locF x 0 = .inl c) (u : World) (hu : TabAt u) : Calls Tryz.prog 109 #[.string (B x)] u fun e w' => e = .returned (.tuple #[.string (B c), .nilIface]) /\ Below u.heap.size u w' :=
 (local_l x u hx hu).mono fun e w' ⟨⟨v, he, hv⟩, hb⟩ => by rw [h] at he hv; rw [show v = .nilIface from hv] at he; exact ⟨he, hb⟩
theorem lexLoc_bad (x : List UInt8) {y : Nat × Int} (hx : x.length <= 140737488351232) (h : locF x 0 = .inr y) (u : World) (hu : TabAt u) : Calls Tryz.prog 109 #[.string (B x)] u fun e w' => (∃ b, e = .returned (.tuple #[.string (B []), .iface 91 (.pointer (some ⟨b, 0, none⟩))])) /\ Below u.heap.size u w' :=
 (local_l x u hx hu).mono fun e w' ⟨⟨v, he, hv⟩, hb⟩ => by rw [h] at he hv; obtain ⟨b, hvb, _⟩ := hv; rw [hvb] at he; exact ⟨⟨b, he⟩, hb⟩
set_option maxHeartbeats 3200000 in
theorem lexPiece_true (l : List UInt8) (j : Nat) (w : World) (hj : j <= l.length) (_hl : l.length <= 16777216) (hT : TabAt w) : Calls Tryz.prog 155 #[.string (B l), .int .i64 (j : Int), .bool true] w fun e w' => e = .returned (.tuple #[.int .i64 ((pcF l j true 1).1 : Int), .bool (pcF l j true 1).2]) /\ Below w.heap.size w w' := by
 have TT := hid (fun (u : World) (hb : Below w.heap.size w u) => hT.below hb)
 have HB0 : Hid (Below w.heap.size w w) := hid (Below.refl _ _)
 have BB := hid (fun (u : World) => lexB_l true u)
 clear hT
 have hj1 : (j : Int) <= (l.length : Int) := by omega
 have hj0 : (0 : Int) <= (j : Int) := by omega
 obtain ⟨r, hr⟩ : ∃ r, List.drop j l = r := ⟨_, rfl⟩
 have hlen : r.length = l.length - j := by rw [<- hr]; simp
 have HLN := hid hlen
 have htk : List.take (l.length - j) r = r := List.take_of_length_le (by omega)
 clear hlen
 go_enter Tryz.func155, Tryz.ntmps155
 go_wp2
 go_loopw [9] (fun z wr => ∃ n : Nat, z = .int .i64 (n : Int) /\ 1 <= n /\ n <= 5 /\ Hid (pcF l j true n = pcF l j true 1) /\ Hid (Below w.heap.size w wr)) (fun z _ => 6 - (intOf z).toNat)
 case atStart => exact ⟨1, rfl, Nat.le_refl _, by omega, hid rfl, HB0⟩
 case round =>
  obtain ⟨n, rfl, hn1, hn5, HE, HB⟩ := hrel
  obtain ⟨W0, hW0⟩ : ∃ W0 : World, W0 = wr := ⟨_, rfl⟩
  subst hW0
  clear HB0 htk
  have HE2 : Hid (pcF l j true 1 = pcF l j true n) := hid HE.out.symm
  clear HE
  by_cases h4 : n <= 4
  case neg =>
   have q1 : decide ((n : Int) <= 4) = false := decide_eq_false (by omega)
   have HR : Hid (pcF l j true 1 = (0, false)) := hid (by rw [HE2.out, pcF_out (by omega)])
   clear HE2 h4 hr
   go_wp2
   go_ret2
   exact ⟨by rw [HR.out]; rfl, HB.out⟩
  have q1 : decide ((n : Int) <= 4) = true := decide_eq_true (by omega)
  by_cases hlr : n <= r.length
  case neg =>
   have q2 : decide ((n : Int) <= (r.length : Int)) = false := decide_eq_false (by omega)
   have q3 : decide (n <= r.length) = false := decide_eq_false hlr
   have HR : Hid (pcF l j true 1 = (0, false)) := hid (by rw [HE2.out, pcF_out (by have := HLN.out; omega)])
   clear HE2 h4 hr hlr
   go_wp2
   go_ret2
   exact ⟨by rw [HR.out]; rfl, HB.out⟩
  have q2 : decide ((n : Int) <= (r.length : Int)) = true := decide_eq_true (by omega)
  have hjn : j + n <= l.length := by have := HLN.out; omega
  obtain ⟨c, t, rfl⟩ : ∃ c t, r = c :: t := by
   cases r with
   | nil => simp at hlr; omega
   | cons c t => exact ⟨c, t, rfl⟩
  have hc : l.getD j 0 = c := by
   have h1 : (l.drop j).getD 0 0 = c := by rw [hr]; rfl
   simpa [List.getD] using h1
  have HC := hid hc
  have hD := hid hr
  clear hc
  have q5 : decide (n <= (c :: t).length) = true := decide_eq_true hlr
  simp only [List.length_cons] at hlr q2 q5 HLN
  by_cases hd : n = 1 /\ c = 46
  ·obtain ⟨rfl, rfl⟩ := hd
   have HR : Hid (pcF l j true 1 = (0, false)) := hid (by rw [pcF_dot (by omega) HC.out]; rfl)
   clear HE2 h4 hD HC
   go_wp2_with (go_at_call 206; (with_reducible refine (BB.out _).mono ?_); rintro e w1 ⟨rfl, hw⟩; rw [hw]; clear hw)
   go_ret2
   exact ⟨by rw [HR.out]; rfl, HB.out⟩
  have HD := hid hd
  obtain ⟨m, hm⟩ : ∃ m, n = m + 1 := ⟨n - 1, by omega⟩
  have ht : List.take n (c :: t) = c :: t.take m := by rw [hm]; rfl
  obtain ⟨s, hs⟩ : ∃ s, t.take m = s := ⟨_, rfl⟩
  rw [hs] at ht
  have hsl : s.length <= 3 := by rw [<- hs]; simp; omega
  have hst : s.length <= t.length := by rw [<- hs]; simp; omega
  clear hs hm
  have q3 : ((n : Int) == 1) = false \/ (((n : Int) == 1) = true /\ ((c.toNat : Int) == 46) = false) := by
   by_cases h1 : n = 1
   ·exact .inr ⟨by rw [h1]; rfl, beq_eq_false_iff_ne.2 (fun h => hd ⟨h1, UInt8.toNat_inj.1 (by simpa using (by omega : c.toNat = 46))⟩)⟩
   ·exact .inl (beq_eq_false_iff_ne.2 (by omega))
  clear hd
  have WA : IntKind.i64.wrap ((n : Int) + 1) = (n : Int) + 1 := IntWalk.i64_in _ (by omega)
  have n0 : (0 : Int) <= (n : Int) := by omega
  have n1 : (n : Int) <= (t.length : Int) + 1 := by omega
  have HT0 : Hid (List.take n (List.drop j l) = c :: s) := hid (by rw [hD.out]; exact ht)
  have TRY : ∀ x, tryT (c :: s) true = x -> Hid (pcF l j true n = if locOk x = true then (n, false) else pcF l j true (n + 1)) := fun x hx => hid (by
   subst hx
   cases h : locOk (tryT (c :: s) true) with
   | true => rw [pcF_ok ⟨h4, hjn⟩ (by rw [HC.out]; exact HD.out) (by rw [HT0.out]; exact h)]; rfl
   | false => rw [pcF_go ⟨h4, hjn⟩ (by rw [HC.out]; exact HD.out) (by rw [HT0.out]; exact h)]; rfl)
  have TX := TRY (c :: s) (by unfold tryT; rw [if_neg (by simp)])
  clear TRY
  obtain ⟨y, hy⟩ : ∃ y, locF (c :: s) 0 = y := ⟨_, rfl⟩
  have hok : locOk (c :: s) = okR y := by unfold locOk; rw [hy]
  rcases y with says | bad
  ·have LO := hid (fun (u : World) (hb : Below w.heap.size w u) => lexLoc_ok (c :: s) says (by simp; omega) hy u (TT.out u hb))
   have HR : Hid (pcF l j true 1 = (n, false)) := hid (by rw [HE2.out, TX.out, hok]; rfl)
   clear TX hok hy HE2 hD HC HD HT0
   rcases q3 with q3 | ⟨q3, q4⟩
   ·go_wp2_with (go_at_call 109; (with_reducible refine (LO.out _ HB.out).mono ?_); rintro e w2 ⟨rfl, hb2⟩; have HB2 := hid (HB.out.trans (hb2.mono HB.out.size)); clear hb2)
    go_ret2
    exact ⟨by rw [HR.out]; rfl, HB2.out⟩
   ·go_wp2_with (go_at_call 109; (with_reducible refine (LO.out _ HB.out).mono ?_); rintro e w2 ⟨rfl, hb2⟩; have HB2 := hid (HB.out.trans (hb2.mono HB.out.size)); clear hb2)
    go_ret2
    exact ⟨by rw [HR.out]; rfl, HB2.out⟩
  ·have LO := hid (fun (u : World) (hb : Below w.heap.size w u) => lexLoc_bad (c :: s) (by simp; omega) hy u (TT.out u hb))
   have HN : Hid (pcF l j true (n + 1) = pcF l j true 1) := hid (by rw [HE2.out, TX.out, hok]; rfl)
   clear TX hok hy HE2 hD HC HD HT0
   rcases q3 with q3 | ⟨q3, q4⟩
   ·go_wp2_with (go_at_call 109; (with_reducible refine (LO.out _ HB.out).mono ?_); rintro e w2 ⟨⟨b, rfl⟩, hb2⟩; have HB2 := hid (HB.out.trans (hb2.mono HB.out.size)); clear hb2)
    go_roundw
    case rel => exact ⟨n + 1, by go_num, by omega, by omega, HN, HB2⟩
    case measure => simp [intOf]; omega
   ·go_wp2_with (go_at_call 109; (with_reducible refine (LO.out _ HB.out).mono ?_); rintro e w2 ⟨⟨b, rfl⟩, hb2⟩; have HB2 := hid (HB.out.trans (hb2.mono HB.out.size)); clear hb2)
    go_roundw
    case rel => exact ⟨n + 1, by go_num, by omega, by omega, HN, HB2⟩
    case measure => simp [intOf]; omega
set_option maxHeartbeats 3200000 in
theorem lexPiece_false (l : List UInt8) (j : Nat) (w : World) (hj : j <= l.length) (_hl : l.length <= 16777216) (hT : TabAt w) : Calls Tryz.prog 155 #[.string (B l), .int .i64 (j : Int), .bool false] w fun e w' => e = .returned (.tuple #[.int .i64 ((pcF l j false 1).1 : Int), .bool (pcF l j false 1).2]) /\ Below w.heap.size w w' := by
 have TT := hid (fun (u : World) (hb : Below w.heap.size w u) => hT.below hb)
 have HB0 : Hid (Below w.heap.size w w) := hid (Below.refl _ _)
 have BB := hid (fun (u : World) => lexB_l false u)
 clear hT
 have hj1 : (j : Int) <= (l.length : Int) := by omega
 have hj0 : (0 : Int) <= (j : Int) := by omega
 obtain ⟨r, hr⟩ : ∃ r, List.drop j l = r := ⟨_, rfl⟩
 have hlen : r.length = l.length - j := by rw [<- hr]; simp
 have HLN := hid hlen
 have htk : List.take (l.length - j) r = r := List.take_of_length_le (by omega)
 clear hlen
 go_enter Tryz.func155, Tryz.ntmps155
 go_wp2
 go_loopw [9] (fun z wr => ∃ n : Nat, z = .int .i64 (n : Int) /\ 1 <= n /\ n <= 5 /\ Hid (pcF l j false n = pcF l j false 1) /\ Hid (Below w.heap.size w wr)) (fun z _ => 6 - (intOf z).toNat)
 case atStart => exact ⟨1, rfl, Nat.le_refl _, by omega, hid rfl, HB0⟩
 case round =>
  obtain ⟨n, rfl, hn1, hn5, HE, HB⟩ := hrel
  obtain ⟨W0, hW0⟩ : ∃ W0 : World, W0 = wr := ⟨_, rfl⟩
  subst hW0
  clear HB0 htk
  have HE2 : Hid (pcF l j false 1 = pcF l j false n) := hid HE.out.symm
  clear HE
  by_cases h4 : n <= 4
  case neg =>
   have q1 : decide ((n : Int) <= 4) = false := decide_eq_false (by omega)
   have HR : Hid (pcF l j false 1 = (0, false)) := hid (by rw [HE2.out, pcF_out (by omega)])
   clear HE2 h4 hr
   go_wp2
   go_ret2
   exact ⟨by rw [HR.out]; rfl, HB.out⟩
  have q1 : decide ((n : Int) <= 4) = true := decide_eq_true (by omega)
  by_cases hlr : n <= r.length
  case neg =>
   have q2 : decide ((n : Int) <= (r.length : Int)) = false := decide_eq_false (by omega)
   have q3 : decide (n <= r.length) = false := decide_eq_false hlr
   have HR : Hid (pcF l j false 1 = (0, false)) := hid (by rw [HE2.out, pcF_out (by have := HLN.out; omega)])
   clear HE2 h4 hr hlr
   go_wp2
   go_ret2
   exact ⟨by rw [HR.out]; rfl, HB.out⟩
  have q2 : decide ((n : Int) <= (r.length : Int)) = true := decide_eq_true (by omega)
  have hjn : j + n <= l.length := by have := HLN.out; omega
  obtain ⟨c, t, rfl⟩ : ∃ c t, r = c :: t := by
   cases r with
   | nil => simp at hlr; omega
   | cons c t => exact ⟨c, t, rfl⟩
  have hc : l.getD j 0 = c := by
   have h1 : (l.drop j).getD 0 0 = c := by rw [hr]; rfl
   simpa [List.getD] using h1
  have HC := hid hc
  have hD := hid hr
  clear hc
  have q5 : decide (n <= (c :: t).length) = true := decide_eq_true hlr
  simp only [List.length_cons] at hlr q2 q5 HLN
  by_cases hd : n = 1 /\ c = 46
  ·obtain ⟨rfl, rfl⟩ := hd
   have HR : Hid (pcF l j false 1 = (1, true)) := hid (by rw [pcF_dot (by omega) HC.out]; rfl)
   clear HE2 h4 hD HC
   go_wp2_with (go_at_call 206; (with_reducible refine (BB.out _).mono ?_); rintro e w1 ⟨rfl, hw⟩; rw [hw]; clear hw)
   go_ret2
   exact ⟨by rw [HR.out]; rfl, HB.out⟩
  have HD := hid hd
  obtain ⟨m, hm⟩ : ∃ m, n = m + 1 := ⟨n - 1, by omega⟩
  have ht : List.take n (c :: t) = c :: t.take m := by rw [hm]; rfl
  obtain ⟨s, hs⟩ : ∃ s, t.take m = s := ⟨_, rfl⟩
  rw [hs] at ht
  have hsl : s.length <= 3 := by rw [<- hs]; simp; omega
  have hst : s.length <= t.length := by rw [<- hs]; simp; omega
  clear hs hm
  have q3 : ((n : Int) == 1) = false \/ (((n : Int) == 1) = true /\ ((c.toNat : Int) == 46) = false) := by
   by_cases h1 : n = 1
   ·exact .inr ⟨by rw [h1]; rfl, beq_eq_false_iff_ne.2 (fun h => hd ⟨h1, UInt8.toNat_inj.1 (by simpa using (by omega : c.toNat = 46))⟩)⟩
   ·exact .inl (beq_eq_false_iff_ne.2 (by omega))
  clear hd
  have WA : IntKind.i64.wrap ((n : Int) + 1) = (n : Int) + 1 := IntWalk.i64_in _ (by omega)
  have n0 : (0 : Int) <= (n : Int) := by omega
  have n1 : (n : Int) <= (t.length : Int) + 1 := by omega
  have HT0 : Hid (List.take n (List.drop j l) = c :: s) := hid (by rw [hD.out]; exact ht)
  have TRY : ∀ x, tryT (c :: s) false = x -> Hid (pcF l j false n = if locOk x = true then (n, false) else pcF l j false (n + 1)) := fun x hx => hid (by
   subst hx
   cases h : locOk (tryT (c :: s) false) with
   | true => rw [pcF_ok ⟨h4, hjn⟩ (by rw [HC.out]; exact HD.out) (by rw [HT0.out]; exact h)]; rfl
   | false => rw [pcF_go ⟨h4, hjn⟩ (by rw [HC.out]; exact HD.out) (by rw [HT0.out]; exact h)]; rfl)
  have e9 : (⟨#[97]⟩ : ByteArray) ++ B (c :: s) = B (97 :: c :: s) := B_append [97] (c :: s)
  have E9 := hid e9
  clear e9
  by_cases h1 : c = 37
  ·subst h1
   have TX := TRY (37 :: s) (by unfold tryT; rw [if_neg (by simp)])
   clear TRY
   obtain ⟨y, hy⟩ : ∃ y, locF (37 :: s) 0 = y := ⟨_, rfl⟩
   have hok : locOk (37 :: s) = okR y := by unfold locOk; rw [hy]
   rcases y with says | bad
   ·have LO := hid (fun (u : World) (hb : Below w.heap.size w u) => lexLoc_ok (37 :: s) says (by simp; omega) hy u (TT.out u hb))
    have HR : Hid (pcF l j false 1 = (n, false)) := hid (by rw [HE2.out, TX.out, hok]; rfl)
    clear TX hok hy HE2 hD HC HD HT0
    rcases q3 with q3 | ⟨q3, q4⟩
    ·go_wp2_with (go_at_call 109; (with_reducible refine (LO.out _ HB.out).mono ?_); rintro e w2 ⟨rfl, hb2⟩; have HB2 := hid (HB.out.trans (hb2.mono HB.out.size)); clear hb2)
     go_ret2
     exact ⟨by rw [HR.out]; rfl, HB2.out⟩
    ·go_wp2_with (go_at_call 109; (with_reducible refine (LO.out _ HB.out).mono ?_); rintro e w2 ⟨rfl, hb2⟩; have HB2 := hid (HB.out.trans (hb2.mono HB.out.size)); clear hb2)
     go_ret2
     exact ⟨by rw [HR.out]; rfl, HB2.out⟩
   ·have LO := hid (fun (u : World) (hb : Below w.heap.size w u) => lexLoc_bad (37 :: s) (by simp; omega) hy u (TT.out u hb))
    have HN : Hid (pcF l j false (n + 1) = pcF l j false 1) := hid (by rw [HE2.out, TX.out, hok]; rfl)
    clear TX hok hy HE2 hD HC HD HT0
    rcases q3 with q3 | ⟨q3, q4⟩
    ·go_wp2_with (go_at_call 109; (with_reducible refine (LO.out _ HB.out).mono ?_); rintro e w2 ⟨⟨b, rfl⟩, hb2⟩; have HB2 := hid (HB.out.trans (hb2.mono HB.out.size)); clear hb2)
     go_roundw
     case rel => exact ⟨n + 1, by go_num, by omega, by omega, HN, HB2⟩
     case measure => simp [intOf]; omega
    ·go_wp2_with (go_at_call 109; (with_reducible refine (LO.out _ HB.out).mono ?_); rintro e w2 ⟨⟨b, rfl⟩, hb2⟩; have HB2 := hid (HB.out.trans (hb2.mono HB.out.size)); clear hb2)
     go_roundw
     case rel => exact ⟨n + 1, by go_num, by omega, by omega, HN, HB2⟩
     case measure => simp [intOf]; omega
  have k1 : ((c.toNat : Int) != 37) = true := byte_nei (d := 37) h1
  by_cases h2 : c = 92
  ·subst h2
   have TX := TRY (92 :: s) (by unfold tryT; rw [if_neg (by simp)])
   clear TRY
   obtain ⟨y, hy⟩ : ∃ y, locF (92 :: s) 0 = y := ⟨_, rfl⟩
   have hok : locOk (92 :: s) = okR y := by unfold locOk; rw [hy]
   rcases y with says | bad
   ·have LO := hid (fun (u : World) (hb : Below w.heap.size w u) => lexLoc_ok (92 :: s) says (by simp; omega) hy u (TT.out u hb))
    have HR : Hid (pcF l j false 1 = (n, false)) := hid (by rw [HE2.out, TX.out, hok]; rfl)
    clear TX hok hy HE2 hD HC HD HT0
    rcases q3 with q3 | ⟨q3, q4⟩
    ·go_wp2_with (go_at_call 109; (with_reducible refine (LO.out _ HB.out).mono ?_); rintro e w2 ⟨rfl, hb2⟩; have HB2 := hid (HB.out.trans (hb2.mono HB.out.size)); clear hb2)
     go_ret2
     exact ⟨by rw [HR.out]; rfl, HB2.out⟩
    ·go_wp2_with (go_at_call 109; (with_reducible refine (LO.out _ HB.out).mono ?_); rintro e w2 ⟨rfl, hb2⟩; have HB2 := hid (HB.out.trans (hb2.mono HB.out.size)); clear hb2)
     go_ret2
     exact ⟨by rw [HR.out]; rfl, HB2.out⟩
   ·have LO := hid (fun (u : World) (hb : Below w.heap.size w u) => lexLoc_bad (92 :: s) (by simp; omega) hy u (TT.out u hb))
    have HN : Hid (pcF l j false (n + 1) = pcF l j false 1) := hid (by rw [HE2.out, TX.out, hok]; rfl)
    clear TX hok hy HE2 hD HC HD HT0
    rcases q3 with q3 | ⟨q3, q4⟩
    ·go_wp2_with (go_at_call 109; (with_reducible refine (LO.out _ HB.out).mono ?_); rintro e w2 ⟨⟨b, rfl⟩, hb2⟩; have HB2 := hid (HB.out.trans (hb2.mono HB.out.size)); clear hb2)
     go_roundw
     case rel => exact ⟨n + 1, by go_num, by omega, by omega, HN, HB2⟩
     case measure => simp [intOf]; omega
    ·go_wp2_with (go_at_call 109; (with_reducible refine (LO.out _ HB.out).mono ?_); rintro e w2 ⟨⟨b, rfl⟩, hb2⟩; have HB2 := hid (HB.out.trans (hb2.mono HB.out.size)); clear hb2)
     go_roundw
     case rel => exact ⟨n + 1, by go_num, by omega, by omega, HN, HB2⟩
     case measure => simp [intOf]; omega
  have k2 : ((c.toNat : Int) != 92) = true := byte_nei (d := 92) h2
  have TX := TRY (97 :: c :: s) (by unfold tryT; rw [if_pos ⟨rfl, h1, h2⟩])
  clear TRY
  obtain ⟨y, hy⟩ : ∃ y, locF (97 :: c :: s) 0 = y := ⟨_, rfl⟩
  have hok : locOk (97 :: c :: s) = okR y := by unfold locOk; rw [hy]
  rcases y with says | bad
  ·have LO := hid (fun (u : World) (hb : Below w.heap.size w u) => lexLoc_ok (97 :: c :: s) says (by simp; omega) hy u (TT.out u hb))
   rw [<- E9.out] at LO
   have HR : Hid (pcF l j false 1 = (n, false)) := hid (by rw [HE2.out, TX.out, hok]; rfl)
   clear TX hok hy HE2 hD HC HD HT0
   rcases q3 with q3 | ⟨q3, q4⟩
   ·go_wp2_with (go_at_call 109; (with_reducible refine (LO.out _ HB.out).mono ?_); rintro e w2 ⟨rfl, hb2⟩; have HB2 := hid (HB.out.trans (hb2.mono HB.out.size)); clear hb2)
    go_ret2
    exact ⟨by rw [HR.out]; rfl, HB2.out⟩
   ·go_wp2_with (go_at_call 109; (with_reducible refine (LO.out _ HB.out).mono ?_); rintro e w2 ⟨rfl, hb2⟩; have HB2 := hid (HB.out.trans (hb2.mono HB.out.size)); clear hb2)
    go_ret2
    exact ⟨by rw [HR.out]; rfl, HB2.out⟩
  ·have LO := hid (fun (u : World) (hb : Below w.heap.size w u) => lexLoc_bad (97 :: c :: s) (by simp; omega) hy u (TT.out u hb))
   rw [<- E9.out] at LO
   have HN : Hid (pcF l j false (n + 1) = pcF l j false 1) := hid (by rw [HE2.out, TX.out, hok]; rfl)
   clear TX hok hy HE2 hD HC HD HT0
   rcases q3 with q3 | ⟨q3, q4⟩
   ·go_wp2_with (go_at_call 109; (with_reducible refine (LO.out _ HB.out).mono ?_); rintro e w2 ⟨⟨b, rfl⟩, hb2⟩; have HB2 := hid (HB.out.trans (hb2.mono HB.out.size)); clear hb2)
    go_roundw
    case rel => exact ⟨n + 1, by go_num, by omega, by omega, HN, HB2⟩
    case measure => simp [intOf]; omega
   ·go_wp2_with (go_at_call 109; (with_reducible refine (LO.out _ HB.out).mono ?_); rintro e w2 ⟨⟨b, rfl⟩, hb2⟩; have HB2 := hid (HB.out.trans (hb2.mono HB.out.size)); clear hb2)
    go_roundw
    case rel => exact ⟨n + 1, by go_num, by omega, by omega, HN, HB2⟩
    case measure => simp [intOf]; omega
theorem lexPiece_l (l : List UInt8) (j : Nat) (f : Bool) (w : World) (hj : j <= l.length) (hl : l.length <= 16777216) (hT : TabAt w) : Calls Tryz.prog 155 #[.string (B l), .int .i64 (j : Int), .bool f] w fun e w' => e = .returned (.tuple #[.int .i64 ((pcF l j f 1).1 : Int), .bool (pcF l j f 1).2]) /\ Below w.heap.size w w' := by
 cases f
 ·exact lexPiece_false l j w hj hl hT
 ·exact lexPiece_true l j w hj hl hT
set_option maxHeartbeats 3200000 in
theorem lexLocal_l (l : List UInt8) (a : Nat) (w : World) (ha : a <= l.length) (hl : l.length <= 16777216) (hT : TabAt w) : Calls Tryz.prog 108 #[.string (B l), .int .i64 (a : Int)] w fun e w' => e = .returned (.int .i64 ((locP l a a a - a : Nat) : Int)) /\ Below w.heap.size w w' := by
 have PI := hid (fun (k : Nat) (f : Bool) (hk : k <= l.length) (u : World) (hb : Below w.heap.size w u) => lexPiece_l l k f u hk hl (hT.below hb))
 have HB0 : Hid (Below w.heap.size w w) := hid (Below.refl _ _)
 clear hT
 go_enter Tryz.func108, Tryz.ntmps108
 go_wp2
 go_loopw [5, 6] (fun y z wr => ∃ (e k : Nat), y = .int .i64 (e : Int) /\ z = .int .i64 (k : Int) /\ a <= e /\ e <= k /\ k <= l.length /\ Hid (locP l a k e = locP l a a a) /\ Hid (Below w.heap.size w wr)) (fun _ z _ => l.length - (intOf z).toNat)
 case atStart => exact ⟨a, a, rfl, rfl, Nat.le_refl _, Nat.le_refl _, ha, hid rfl, HB0⟩
 case round =>
  obtain ⟨e, k, rfl, rfl, hae, hek, hk, HE, HB⟩ := hrel
  obtain ⟨W0, hW0⟩ : ∃ W0 : World, W0 = wr := ⟨_, rfl⟩
  subst hW0
  clear HB0
  obtain ⟨f, hf⟩ : ∃ f, decide (k = a) = f := ⟨_, rfl⟩
  have kf : ((k : Int) == (a : Int)) = f := by
   rw [<- hf]
   by_cases h : k = a
   ·rw [h, decide_eq_true rfl, beq_self_eq_true]
   ·rw [decide_eq_false h, beq_eq_false_iff_ne.2 (by omega)]
  have P1 := hid (PI.out k f hk W0 HB.out)
  have hb := pcF_bound l k f
  obtain ⟨⟨n, d⟩, hp⟩ : ∃ p, pcF l k f 1 = p := ⟨_, rfl⟩
  rw [hp] at P1 hb
  simp only at hb
  have P2 : Hid (Calls Tryz.prog 155 #[.string (B l), .int .i64 (k : Int), .bool f] W0 fun e w' => e = .returned (.tuple #[.int .i64 (n : Int), .bool d]) /\ Below W0.heap.size W0 w') := P1
  clear P1 PI
  rw [<- hf] at hp
  have WS : IntKind.i64.wrap ((e : Int) - (a : Int)) = (e : Int) - (a : Int) := IntWalk.i64_in _ (by omega)
  have WA : IntKind.i64.wrap ((k : Int) + (n : Int)) = (k : Int) + (n : Int) := IntWalk.i64_in _ (by omega)
  by_cases hn : n = 0
  ·subst hn
   have HR : Hid (((locP l a a a - a : Nat) : Int) = (e : Int) - (a : Int)) := hid (by rw [<- HE.out, locP_stop (by rw [hp])]; omega)
   clear hp HE hf
   go_wp2_with (go_at_call 155; (with_reducible refine P2.out.mono ?_); rintro e w2 ⟨rfl, hb2⟩; have HB2 := hid (HB.out.trans (hb2.mono HB.out.size)); clear hb2)
   go_ret
   exact ⟨by rw [HR.out]; rfl, HB2.out⟩
  have kn : ((n : Int) == 0) = false := beq_eq_false_iff_ne.2 (by omega)
  have HN : Hid (locP l a (k + n) (if d = true then e else k + n) = locP l a a a) := hid (by rw [<- HE.out, locP_go hp hn])
  clear hp HE hf
  cases d
  ·go_wp2_with (go_at_call 155; (with_reducible refine P2.out.mono ?_); rintro e w2 ⟨rfl, hb2⟩; have HB2 := hid (HB.out.trans (hb2.mono HB.out.size)); clear hb2)
   go_roundw
   case rel => exact ⟨k + n, k + n, by go_num, by go_num, by omega, Nat.le_refl _, by omega, HN, HB2⟩
   case measure => simp [intOf]; omega
  ·go_wp2_with (go_at_call 155; (with_reducible refine P2.out.mono ?_); rintro e w2 ⟨rfl, hb2⟩; have HB2 := hid (HB.out.trans (hb2.mono HB.out.size)); clear hb2)
   go_roundw
   case rel => exact ⟨e, k + n, rfl, by go_num, by omega, by omega, by omega, HN, HB2⟩
   case measure => simp [intOf]; omega
end Go.Proofs.YtdhmpakhdhdebaaGreatDoor
namespace Go.Proofs.YtdhmpakhdhdebaaGreatDoor
open Go.Lib (hid)
open Go.RowKit
set_option maxRecDepth 100000
def endsL : List UInt8 := [13, 10]
theorem ends_low : ∀ c ∈ endsL, c.toNat < 128 := by decide
theorem ends_at (j : Nat) (h : j < 2) : (endsL[j]'h).toNat < 128 := (by decide : ∀ c ∈ endsL, c.toNat < 128) _ (List.getElem_mem ..)
set_option maxHeartbeats 3200000 in
theorem endRune_high (x : Nat) (h1 : 128 <= x) (h2 : x <= 1114111) (w : World) :
  Calls Tryz.prog 93 #[.string { data := #[13, 10] }, .int .i32 (x : Int)] w fun e w' => e = .returned (.int .i64 (-1)) /\ Below w.heap.size w w' := by
 have VAL := hid (fun u => Tryz.utf8_ValidRune (x : Int) u)
 have q0 : decide ((0 : Int) <= (x : Int)) = true := decide_eq_true (by omega)
 have q1 : decide ((x : Int) < 128) = false := decide_eq_false (by omega)
 by_cases h3 : x = 65533
 ·have q3 : ((x : Int) == 65533) = true := by rw [h3]; rfl
  clear h3
  go_enter Tryz.func93, Tryz.ntmps93
  go_wp2_with fail
  go_loopw [5] (fun _ wr => ∃ j : Nat, j <= 2 /\ wr = w.iter { data := #[13, 10] } j) (fun _ wr => 2 - wr.iterPos w.heap.size)
  case atStart => exact ⟨0, Nat.zero_le _, rfl⟩
  case round =>
   obtain ⟨j, hj, rfl⟩ := hrel
   by_cases hlt : j < 2
   ·have ha := ends_at j hlt
    have hnx := fun ty => next_ascii (P := Tryz.prog) w endsL j ty hlt ha
    obtain ⟨c, hc⟩ : ∃ c, (endsL[j]'hlt) = c := ⟨_, rfl⟩
    rw [hc] at hnx ha
    change ∀ ty, (Instr.next (.pointer (some ⟨w.heap.size, 0, none⟩)) true ty).run Tryz.prog (w.iter { data := #[13, 10] } j) = .ok (.tuple #[.bool true, .int .i64 (j : Int), .int .i32 (c.toNat : Int)]) (w.iter { data := #[13, 10] } (j + 1)) at hnx
    have e1 : ((c.toNat : Int) == 65533) = false := beq_eq_false_iff_ne.2 (by omega)
    clear hc ha
    go_wp2_with fail
    go_roundw
    case rel => exact ⟨j + 1, hlt, rfl⟩
    case measure => simp; omega
   ·obtain rfl : j = 2 := by omega
    have hnx := fun ty => next_end (P := Tryz.prog) w endsL ty
    change ∀ ty, (Instr.next (.pointer (some ⟨w.heap.size, 0, none⟩)) true ty).run Tryz.prog (w.iter { data := #[13, 10] } 2) = .ok (.tuple #[.bool false]) (w.iter { data := #[13, 10] } 2) at hnx
    go_wp2_with fail
    go_ret
    exact ⟨rfl, (Below.refl _ _).alloc (Nat.le_refl _) _⟩
 have q3 : ((x : Int) == 65533) = false := beq_eq_false_iff_ne.2 (by omega)
 cases hv : Lib.validRune (x : Int) with
 | false =>
  rw [hv] at VAL
  clear hv h3
  go_enter Tryz.func93, Tryz.ntmps93
  go_wp2_with (go_at_call 139; (with_reducible refine (VAL.out _).mono ?_); rintro e w1 ⟨rfl, rfl⟩)
  go_ret
  exact ⟨rfl, Below.refl _ _⟩
 | true =>
  rw [hv] at VAL
  rcases encode_cases x h1 hv with ⟨a, b, he, hb⟩ | ⟨a, b0, b, he, hb⟩ | ⟨a, b0, b1, b, he, hb⟩
  ·have IX2 := hid (fun (u : World) => indexByte_high b hb ByteArray.empty (fun x hx => (List.not_mem_nil (show x ∈ ([] : List UInt8) from hx)).elim) u)
   have e1 : ((10 : Int) == (b.toNat : Int)) = false := beq_eq_false_iff_ne.2 (by omega)
   have e2 : ((10 : Int) != (b.toNat : Int)) = true := by rw [bne, e1]; rfl
   have i1 : ∀ u : World, (Instr.index 9 (.string { data := #[13, 10] }) (.int .i64 1)).run Tryz.prog u = .ok (.int .u8 10) u := fun _ => by kernel_rfl
   have i2 : ∀ u : World, (Instr.index 9 (.string { data := #[a, b] }) (.int .i64 1)).run Tryz.prog u = .ok (.int .u8 (b.toNat : Int)) u := fun _ => by kernel_rfl
   clear hv h3 hb
   go_enter Tryz.func93, Tryz.ntmps93
   go_wp2_with (go_at_call 139; (with_reducible refine (VAL.out _).mono ?_); rintro e w1 ⟨rfl, rfl⟩)
   go_step3
   go_wp2_with fail
   go_loopw [9, 10] (fun i f wr => i = .int .i64 1 /\ f = .int .i64 0 /\ wr = w1) (fun _ _ _ => 0)
   case atStart => exact ⟨rfl, rfl, rfl⟩
   case round =>
    obtain ⟨rfl, rfl, rfl⟩ := hrel
    go_wp2_with fail
    go_step3
    go_wp2_with fail
    go_quiet (fail)
    go_wp2_with fail
    go_quiet ((go_at_call 72; exact quiet_add_same (IX2.out _)))
    go_wp2_with fail
    rw [Exit.noGoto_ret]
    dsimp +zetaDelta only [Exit.inBlock, Exit.then, Exit.noGoto]
    go_ret
    exact ⟨rfl, below_drewN _ _⟩
  ·clear hv h3 hb
   go_enter Tryz.func93, Tryz.ntmps93
   go_wp2_with (go_at_call 139; (with_reducible refine (VAL.out _).mono ?_); rintro e w1 ⟨rfl, rfl⟩)
   go_step3
   go_wp2_with fail
   go_loopw [9, 10] (fun i f wr => i = .int .i64 2 /\ f = .int .i64 0 /\ wr = w1) (fun _ _ _ => 0)
   case atStart => exact ⟨rfl, rfl, rfl⟩
   case round =>
    obtain ⟨rfl, rfl, rfl⟩ := hrel
    go_wp2_with fail
    rw [Exit.noGoto_ret]
    dsimp +zetaDelta only [Exit.inBlock, Exit.then, Exit.noGoto]
    go_ret
    exact ⟨rfl, Below.refl _ _⟩
  ·clear hv h3 hb
   go_enter Tryz.func93, Tryz.ntmps93
   go_wp2_with (go_at_call 139; (with_reducible refine (VAL.out _).mono ?_); rintro e w1 ⟨rfl, rfl⟩)
   go_step3
   go_wp2_with fail
   go_loopw [9, 10] (fun i f wr => i = .int .i64 3 /\ f = .int .i64 0 /\ wr = w1) (fun _ _ _ => 0)
   case atStart => exact ⟨rfl, rfl, rfl⟩
   case round =>
    obtain ⟨rfl, rfl, rfl⟩ := hrel
    go_wp2_with fail
    rw [Exit.noGoto_ret]
    dsimp +zetaDelta only [Exit.inBlock, Exit.then, Exit.noGoto]
    go_ret
    exact ⟨rfl, Below.refl _ _⟩
end Go.Proofs.YtdhmpakhdhdebaaGreatDoor
namespace Go.Proofs.YtdhmpakhdhdebaaGreatDoor
open Go.Lib (hid)
open Go.RowKit
set_option maxRecDepth 100000
def endF (l : List UInt8) : Int := if eolF l 0 < l.length then (eolF l 0 : Int) else -1
theorem ends_has (c : UInt8) : ([13, 10] : List UInt8).contains c = eolC c := by
 unfold eolC
 rw [Bool.eq_iff_iff]
 simp [or_comm]
theorem idx_ends (l : List UInt8) : ∀ (k i : Nat), l.length - i <= k -> i <= l.length -> Lib.indexAny (l.drop i) [13, 10] = if eolF l i < l.length then ((eolF l i - i : Nat) : Int) else -1
 | k, i, hk, hi => by
  by_cases h : l.length <= i
  ·rw [List.drop_eq_nil_of_le h, eolF_end h, if_neg (by omega)]; rfl
  match k, hk with
  | 0, hk => omega
  | k + 1, hk =>
   have ih := idx_ends l k (i + 1) (by omega) (by omega)
   have hg : l.getD i 0 = l[i]'(by omega) := by simp [List.getD, show i < l.length by omega]
   rw [List.drop_eq_getElem_cons (by omega), Lib.indexAny, ends_has]
   have hb := eolF_ge l (i + 1)
   cases hc : eolC (l[i]'(by omega)) with
   | true => rw [eolF_hit (by omega) (by rw [hg]; exact hc), if_pos rfl, if_pos (by omega), Nat.sub_self]; rfl
   | false =>
    rw [eolF_go (by omega) (by rw [hg]; exact hc), if_neg (by simp), ih]
    by_cases he : eolF l (i + 1) < l.length
    ·rw [if_pos he, if_pos he, if_neg (by simp)]; omega
    ·rw [if_neg he, if_neg he]; rfl
theorem endF_any (l : List UInt8) : Lib.indexAny l [13, 10] = endF l := by
 have h := idx_ends l l.length 0 (by omega) (Nat.zero_le _)
 rw [List.drop_zero, Nat.sub_zero] at h
 exact h
theorem useSet_l (n : Int) (w : World) : Calls Tryz.prog 94 #[.int .i64 n] w fun e w' => e = .returned (.bool (decide (8 < n))) /\ w' = w := by
 go_enter Tryz.func94, Tryz.ntmps94
 go_wp2
 go_ret
 exact ⟨rfl, rfl⟩
theorem ends_byte (c : UInt8) (h : c.toNat < 128) : Lib.indexByte [13, 10] c = if c = 13 then 0 else if c = 10 then 1 else -1 := by
 by_cases h1 : c = 13
 ·subst h1; rfl
 rw [if_neg h1]
 by_cases h2 : c = 10
 ·subst h2; rfl
 rw [if_neg h2]
 exact ix_none _ c (fun b hb e => by
  subst e
  rcases List.mem_cons.1 hb with h | hb
  ·exact h1 h
  ·exact h2 (List.mem_singleton.1 hb))
theorem eol_skip (l : List UInt8) (i n : Nat) (hn : i + n <= l.length) (h : ∀ k (hk : k < l.length), i <= k -> k < i + n -> 128 <= l[k].toNat) : eolF l i = eolF l (i + n) := by
 induction n with
 | zero => rfl
 | succ n ih =>
  rw [ih (by omega) (fun k hk h1 h2 => h k hk h1 (by omega))]
  have hc := h (i + n) (by omega) (by omega) (by omega)
  rw [eolF_go (by omega) (by
   rw [show l.getD (i + n) 0 = l[i + n]'(by omega) by simp [List.getD, show i + n < l.length by omega]]
   unfold eolC
   rw [Bool.or_eq_false_iff]
   refine ⟨beq_eq_false_iff_ne.2 (fun e => ?_), beq_eq_false_iff_ne.2 (fun e => ?_)⟩ <;> (rw [e] at hc; exact absurd hc (by decide)))]
  rfl
set_option maxHeartbeats 1600000 in
theorem endAny_short (l : List UInt8) (w : World) (h8 : l.length <= 8) : Calls Tryz.prog 65 #[.string (B l), .string { data := #[13, 10] }] w fun e w' => e = .returned (.int .i64 (endF l)) /\ Below w.heap.size w w' := by
 have US := hid (fun (u : World) => useSet_l (l.length : Int) u)
 rw [decide_eq_false (show ¬ (8 : Int) < (l.length : Int) by omega)] at US
 have IA : Hid (∀ (c : UInt8) (u : World), c.toNat < 128 -> Calls Tryz.prog 93 #[.string { data := #[13, 10] }, .int .i32 (c.toNat : Int)] u fun e w' => e = .returned (.int .i64 (if c = 13 then 0 else if c = 10 then 1 else -1)) /\ w' = u) := hid (fun c u h => by
  have := Tryz.strings_IndexRune_ascii { data := #[13, 10] } (c.toNat : Int) u (by omega) (by omega)
  rw [show ((c.toNat : Int).toNat.toUInt8) = c from by simp, show ({ data := #[13, 10] } : ByteArray).data.toList = [13, 10] from rfl, ends_byte c h] at this
  exact this)
 have IH := hid endRune_high
 have HI : Hid ((w.iter (B l) 0).heap[w.heap.size]? = some (.stringIter (B l) 0)) := hid (heap_alloc_new w _)
 have HB0 : Hid (Below w.heap.size w (w.iter (B l) 0)) := hid ((Below.refl _ _).alloc (Nat.le_refl _) _)
 go_enter Tryz.func65, Tryz.ntmps65
 go_wp2_with (go_at_call 94; (with_reducible refine (US.out _).mono ?_); rintro e w1 ⟨rfl, hw1⟩; obtain rfl := hw1.symm)
 go_loopw [9] (fun _ wr => ∃ j : Nat, j <= l.length /\ Hid (eolF l 0 = eolF l j) /\ Hid (wr.heap[w.heap.size]? = some (.stringIter (B l) j)) /\ Hid (Below w.heap.size w wr)) (fun _ wr => l.length - wr.iterPos w.heap.size)
 case atStart => exact ⟨0, Nat.zero_le _, hid rfl, HI, HB0⟩
 case round =>
  obtain ⟨j, hj, HE, HJ, HB⟩ := hrel
  clear HI HB0
  by_cases hlt : j < l.length
  ·have hnx := fun ty => Lib.run_next_any_at (P := Tryz.prog) wr w.heap.size (B l) j ty HJ.out (by rw [B_size]; exact hlt)
   have hg : l.getD j 0 = l[j] := by simp [List.getD, hlt]
   have HK : ∀ n, Hid ((wr.iterAt w.heap.size (B l) n).heap[w.heap.size]? = some (.stringIter (B l) n)) := fun n => hid (Lib.iterAt_heap _ _ _ _ _ HJ.out)
   have HBN : ∀ n, Hid (Below w.heap.size w (wr.iterAt w.heap.size (B l) n)) := fun n => hid (Lib.below_iterAt HB.out (Nat.le_refl _) _ _)
   have hpos : wr.iterPos w.heap.size = j := by simp [World.iterPos, HJ.out]
   rcases dec_step l j hlt with ⟨ha, hd⟩ | ⟨h1, h2, h3, h4⟩
   ·rw [hd] at hnx
    simp only at hnx
    have I1 := hid (fun u => IA.out l[j] u ha)
    cases hc : eolC l[j] with
    | true =>
     have HR : Hid (endF l = (j : Int)) := hid (by unfold endF; rw [HE.out, eolF_hit hlt (by rw [hg]; exact hc), if_pos hlt])
     have hcc : l[j] = 13 \/ l[j] = 10 := by unfold eolC at hc; simp at hc; exact hc.symm
     have q : ∃ z : Int, decide (0 <= z) = true /\ (if l[j] = 13 then 0 else if l[j] = 10 then 1 else -1) = z := by
      rcases hcc with h | h
      ·exact ⟨0, rfl, by rw [if_pos h]⟩
      ·exact ⟨1, rfl, by rw [h]; rfl⟩
     obtain ⟨z, qz, hz⟩ := q
     rw [hz] at I1
     have HB2 := HBN (j + 1)
     clear hz hcc hc HE HK HBN ha hg hd
     go_wp2_with (go_at_call 93; (with_reducible refine (I1.out _).mono ?_); rintro e w2 ⟨rfl, hw2⟩; obtain rfl := hw2.symm)
     go_ret
     exact ⟨by rw [HR.out]; rfl, HB2.out⟩
    | false =>
     have HN : Hid (eolF l 0 = eolF l (j + 1)) := hid (by rw [HE.out, eolF_go hlt (by rw [hg]; exact hc)])
     have hcc : l[j] ≠ 13 /\ l[j] ≠ 10 := by unfold eolC at hc; simp at hc; exact ⟨hc.2, hc.1⟩
     rw [if_neg hcc.1, if_neg hcc.2] at I1
     have HB2 := HBN (j + 1)
     have HK2 := HK (j + 1)
     clear hcc hc HE HK HBN ha hg hd
     go_wp2_with (go_at_call 93; (with_reducible refine (I1.out _).mono ?_); rintro e w2 ⟨rfl, hw2⟩; obtain rfl := hw2.symm)
     go_roundw
     case rel => exact ⟨j + 1, hlt, HN, HK2, HB2⟩
     case measure => have := HK2.out; rw [hpos]; simp [World.iterPos, this]; omega
   ·obtain ⟨x, n⟩ : Nat × Nat := ⟨(Utf8.decode (B l) j).1, (Utf8.decode (B l) j).2⟩
    have HX := hid (Lib.rune_le (B l) j)
    obtain ⟨⟨x, n⟩, hd⟩ : ∃ q, Utf8.decode (B l) j = q := ⟨_, rfl⟩
    rw [hd] at h1 h2 h3 h4 hnx HX
    simp only at h1 h2 h3 h4 hnx HX
    have I1 := hid (fun u => IH.out x h1 HX.out u)
    have HN : Hid (eolF l 0 = eolF l (j + n)) := hid (by rw [HE.out]; exact eol_skip l j n h3 h4)
    have HB2 := HBN (j + n)
    have HK2 := HK (j + n)
    have HS : Hid (w.heap.size < (wr.iterAt w.heap.size (B l) (j + n)).heap.size) := hid (Array.getElem?_eq_some_iff.1 HK2.out).1
    clear h4 HE HK HBN hg hd HX
    go_wp2_with (go_at_call 93; (with_reducible refine (I1.out _).mono ?_); rintro e w2 ⟨rfl, hb2⟩; have HB3 := hid (HB2.out.trans (hb2.mono HB2.out.size)); have HK3 := hid ((hb2.block _ HS.out).trans HK2.out); clear hb2)
    go_roundw
    case rel => exact ⟨j + n, h3, HN, HK3, HB3⟩
    case measure => have := HK3.out; rw [hpos]; simp [World.iterPos, this]; omega
  ·have hnx := fun ty => Lib.run_next_end_at (P := Tryz.prog) wr w.heap.size (B l) j ty HJ.out (by rw [B_size]; exact hlt)
   have HR : Hid (endF l = -1) := hid (by unfold endF; rw [HE.out, eolF_end (by omega), if_neg hlt])
   go_wp2_with fail
   go_ret
   exact ⟨by rw [HR.out]; rfl, HB.out⟩
theorem endAny_l (l : List UInt8) (w : World) (hl : l.length <= 16777216) : Calls Tryz.prog 65 #[.string (B l), .string { data := #[13, 10] }] w fun e w' => e = .returned (.int .i64 (endF l)) /\ Below w.heap.size w w' := by
 by_cases h8 : l.length <= 8
 ·exact endAny_short l w h8
 ·refine (Tryz.strings_IndexAny_long (fun w => by kernel_rfl) (B l) { data := #[13, 10] } w (by decide) (by rw [B_size]; omega) (by rw [B_size]; omega) (by decide) (fun j b hb => ?_)).mono ?_
  ·exact ends_low b (List.mem_of_getElem? hb)
  ·rintro e w' ⟨he, rfl⟩
   refine ⟨?_, ((Below.refl _ _).alloc (Nat.le_refl _) _).alloc (by simp) _⟩
   rw [he, show ({ data := #[13, 10] } : ByteArray).data.toList = [13, 10] from rfl, show (B l).data.toList = l from B_toList l, endF_any]
end Go.Proofs.YtdhmpakhdhdebaaGreatDoor
