/-
  lexis.word, piece, local: contracts. By an AI agent.
-/
import Derived.Test.YtdhmpakhdhdebaaGreatDoorZLexW1
namespace Go.Proofs.YtdhmpakhdhdebaaGreatDoor
open Go.RowKit
set_option maxRecDepth 100000
set_option maxHeartbeats 3200000 in
theorem lexWord_l (l : List UInt8) (i : Nat) (d : Bool) (w : World) (hi : i <= l.length) (hl : l.length <= 16777216) (hT : TabAt w) : Calls Tryz.prog 106 #[.string (B l), .int .i64 (i : Int), .bool d] w fun e w' => e = .returned (.int .i64 ((wordE l d i - i : Nat) : Int)) /\ Below w.heap.size w w' := by
 have NX := Lib.hid (fun (k : Nat) (hk : k <= l.length) (u : World) => next_l l (k : Int) u (by omega) (by omega))
 have FO := Lib.hid (fun (v : Int) (hs : scal v = true) (u : World) (hb : Below w.heap.size w u) => follows_l v hs u (hT.below hb))
 have HB0 : Hid (Below w.heap.size w w) := Lib.hid (Below.refl _ _)
 clear hT
 go_enter Tryz.func106, Tryz.ntmps106
 go_wp2
 go_loopw [1] (fun z wr => ∃ k : Nat, z = .int .i64 (k : Int) /\ i <= k /\ k <= l.length /\ Hid (wordE l d k = wordE l d i) /\ Hid (Below w.heap.size w wr)) (fun z _ => l.length - (intOf z).toNat)
 case atStart => exact ⟨i, rfl, Nat.le_refl _, hi, Lib.hid rfl, HB0⟩
 case round =>
   obtain ⟨k, rfl, hik, hk, HE, HB⟩ := hrel
   obtain ⟨W0, hW0⟩ : ∃ W0 : World, W0 = wr := ⟨_, rfl⟩
   subst hW0
   have N1 := Lib.hid (NX.out k hk W0)
   obtain ⟨⟨v, n⟩, hq⟩ : ∃ q, nextAt l (k : Int) = q := ⟨_, rfl⟩
   rw [hq] at N1
   have N2 : Hid (Calls Tryz.prog 40 #[.string (B l), .int .i64 (k : Int)] W0 fun e w' => e = .returned (.tuple #[.int .i32 v, .int .i64 (n : Int)]) /\ w' = W0) := N1
   clear N1 HB0
   have WS : IntKind.i64.wrap ((k : Int) - (i : Int)) = (k : Int) - (i : Int) := IntWalk.i64_in _ (by omega)
   by_cases hn : n = 0
   · subst hn
     have HR : Hid (((wordE l d i - i : Nat) : Int) = (k : Int) - (i : Int)) := Lib.hid (by rw [<- HE.out, wordE_stop hq (.inl rfl)]; omega)
     clear hq HE
     go_wp2_with (go_at_call 40; (with_reducible refine N2.out.mono ?_); rintro e w1 ⟨rfl, rfl⟩)
     go_ret
     exact ⟨by rw [HR.out]; rfl, HB.out⟩
   have hs := (nextAt_bytes hq hn).2
   have hb := nextAt_bound hq hn
   have F1 := Lib.hid (FO.out v hs W0 HB.out)
   have WA : IntKind.i64.wrap ((k : Int) + (n : Int)) = (k : Int) + (n : Int) := IntWalk.i64_in _ (by omega)
   have kn : ((n : Int) == 0) = false := beq_eq_false_iff_ne.2 (by omega)
   have HG : Hid (wordE l d i = wordE l d k) := Lib.hid HE.out.symm
   clear HE NX FO
   have goes : (followB v = true) \/ (followB v = false /\ d = true /\ v = 46) \/ (followB v = false /\ ¬ (d = true /\ v = 46)) := by
     cases hf : followB v with
     | true => exact .inl rfl
     | false =>
       by_cases h : d = true /\ v = 46
       · exact .inr (.inl ⟨rfl, h.1, h.2⟩)
       · exact .inr (.inr ⟨rfl, h⟩)
   rcases goes with hf | ⟨hf, rfl, rfl⟩ | ⟨hf, hd⟩
   · have HN : Hid (wordE l d (k + n) = wordE l d i) := Lib.hid (by rw [HG.out, wordE_go hq (by rw [hf]; simp; omega)])
     rw [hf] at F1
     clear HG hf
     go_wp2_with (first | (go_at_call 40; (with_reducible refine N2.out.mono ?_); rintro e w1 ⟨rfl, hw⟩; rw [hw]; clear hw) | (go_at_call 153; (with_reducible refine F1.out.mono ?_); rintro e w2 ⟨rfl, hb2⟩; have HB2 := Lib.hid (HB.out.trans (hb2.mono HB.out.size)); clear hb2))
     go_roundw
     case rel => exact ⟨k + n, by go_num, by omega, by omega, HN, HB2⟩
     case measure => simp [intOf]; omega
   · have HN : Hid (wordE l true (k + n) = wordE l true i) := Lib.hid (by rw [HG.out, wordE_go hq (by rw [hf]; simp; omega)])
     rw [hf] at F1
     clear HG hf
     go_wp2_with (first | (go_at_call 40; (with_reducible refine N2.out.mono ?_); rintro e w1 ⟨rfl, hw⟩; rw [hw]; clear hw) | (go_at_call 153; (with_reducible refine F1.out.mono ?_); rintro e w2 ⟨rfl, hb2⟩; have HB2 := Lib.hid (HB.out.trans (hb2.mono HB.out.size)); clear hb2))
     go_roundw
     case rel => exact ⟨k + n, by go_num, by omega, by omega, HN, HB2⟩
     case measure => simp [intOf]; omega
   · have HR : Hid (((wordE l d i - i : Nat) : Int) = (k : Int) - (i : Int)) := Lib.hid (by rw [HG.out, wordE_stop hq (.inr ⟨hf, hd⟩)]; omega)
     rw [hf] at F1
     clear HG hf
     have dv : d = false \/ (d = true /\ (v != 46) = true) := by
       cases d with
       | false => exact .inl rfl
       | true => exact .inr ⟨rfl, bne_iff_ne.2 (fun h => hd ⟨rfl, h⟩)⟩
     clear hd
     rcases dv with rfl | ⟨rfl, kv⟩
     · by_cases h46 : v = 46
       · subst h46
         go_wp2_with (first | (go_at_call 40; (with_reducible refine N2.out.mono ?_); rintro e w1 ⟨rfl, hw⟩; rw [hw]; clear hw) | (go_at_call 153; (with_reducible refine F1.out.mono ?_); rintro e w2 ⟨rfl, hb2⟩; have HB2 := Lib.hid (HB.out.trans (hb2.mono HB.out.size)); clear hb2))
         go_ret
         exact ⟨by rw [HR.out]; rfl, HB2.out⟩
       · have kv : (v != 46) = true := bne_iff_ne.2 h46
         clear h46
         go_wp2_with (first | (go_at_call 40; (with_reducible refine N2.out.mono ?_); rintro e w1 ⟨rfl, hw⟩; rw [hw]; clear hw) | (go_at_call 153; (with_reducible refine F1.out.mono ?_); rintro e w2 ⟨rfl, hb2⟩; have HB2 := Lib.hid (HB.out.trans (hb2.mono HB.out.size)); clear hb2))
         go_ret
         exact ⟨by rw [HR.out]; rfl, HB2.out⟩
     · go_wp2_with (first | (go_at_call 40; (with_reducible refine N2.out.mono ?_); rintro e w1 ⟨rfl, hw⟩; rw [hw]; clear hw) | (go_at_call 153; (with_reducible refine F1.out.mono ?_); rintro e w2 ⟨rfl, hb2⟩; have HB2 := Lib.hid (HB.out.trans (hb2.mono HB.out.size)); clear hb2))
       go_ret
       exact ⟨by rw [HR.out]; rfl, HB2.out⟩
theorem lexLoc_ok (x c : List UInt8) (hx : x.length <= 140737488351232) (h : locF x 0 = .inl c) (u : World) (hu : TabAt u) : Calls Tryz.prog 109 #[.string (B x)] u fun e w' => e = .returned (.tuple #[.string (B c), .nilIface]) /\ Below u.heap.size u w' :=
 (local_l x u hx hu).mono fun e w' ⟨⟨v, he, hv⟩, hb⟩ => by rw [h] at he hv; rw [show v = .nilIface from hv] at he; exact ⟨he, hb⟩
theorem lexLoc_bad (x : List UInt8) {y : Nat × Int} (hx : x.length <= 140737488351232) (h : locF x 0 = .inr y) (u : World) (hu : TabAt u) : Calls Tryz.prog 109 #[.string (B x)] u fun e w' => (∃ b, e = .returned (.tuple #[.string (B []), .iface 91 (.pointer (some ⟨b, 0, none⟩))])) /\ Below u.heap.size u w' :=
 (local_l x u hx hu).mono fun e w' ⟨⟨v, he, hv⟩, hb⟩ => by rw [h] at he hv; obtain ⟨b, hvb, _⟩ := hv; rw [hvb] at he; exact ⟨⟨b, he⟩, hb⟩
set_option maxHeartbeats 3200000 in
theorem lexPiece_true (l : List UInt8) (j : Nat) (w : World) (hj : j <= l.length) (_hl : l.length <= 16777216) (hT : TabAt w) : Calls Tryz.prog 155 #[.string (B l), .int .i64 (j : Int), .bool true] w fun e w' => e = .returned (.tuple #[.int .i64 ((pcF l j true 1).1 : Int), .bool (pcF l j true 1).2]) /\ Below w.heap.size w w' := by
 have TT := Lib.hid (fun (u : World) (hb : Below w.heap.size w u) => hT.below hb)
 have HB0 : Hid (Below w.heap.size w w) := Lib.hid (Below.refl _ _)
 have BB := Lib.hid (fun (u : World) => lexB_l true u)
 clear hT
 have hj1 : (j : Int) <= (l.length : Int) := by omega
 have hj0 : (0 : Int) <= (j : Int) := by omega
 obtain ⟨r, hr⟩ : ∃ r, List.drop j l = r := ⟨_, rfl⟩
 have hlen : r.length = l.length - j := by rw [<- hr]; simp
 have HLN := Lib.hid hlen
 have htk : List.take (l.length - j) r = r := List.take_of_length_le (by omega)
 clear hlen
 go_enter Tryz.func155, Tryz.ntmps155
 go_wp2
 go_loopw [9] (fun z wr => ∃ n : Nat, z = .int .i64 (n : Int) /\ 1 <= n /\ n <= 5 /\ Hid (pcF l j true n = pcF l j true 1) /\ Hid (Below w.heap.size w wr)) (fun z _ => 6 - (intOf z).toNat)
 case atStart => exact ⟨1, rfl, Nat.le_refl _, by omega, Lib.hid rfl, HB0⟩
 case round =>
   obtain ⟨n, rfl, hn1, hn5, HE, HB⟩ := hrel
   obtain ⟨W0, hW0⟩ : ∃ W0 : World, W0 = wr := ⟨_, rfl⟩
   subst hW0
   clear HB0 htk
   have HE2 : Hid (pcF l j true 1 = pcF l j true n) := Lib.hid HE.out.symm
   clear HE
   by_cases h4 : n <= 4
   case neg =>
     have q1 : decide ((n : Int) <= 4) = false := decide_eq_false (by omega)
     have HR : Hid (pcF l j true 1 = (0, false)) := Lib.hid (by rw [HE2.out, pcF_out (by omega)])
     clear HE2 h4 hr
     go_wp2
     go_ret2
     exact ⟨by rw [HR.out]; rfl, HB.out⟩
   have q1 : decide ((n : Int) <= 4) = true := decide_eq_true (by omega)
   by_cases hlr : n <= r.length
   case neg =>
     have q2 : decide ((n : Int) <= (r.length : Int)) = false := decide_eq_false (by omega)
     have q3 : decide (n <= r.length) = false := decide_eq_false hlr
     have HR : Hid (pcF l j true 1 = (0, false)) := Lib.hid (by rw [HE2.out, pcF_out (by have := HLN.out; omega)])
     clear HE2 h4 hr hlr
     go_wp2
     go_ret2
     exact ⟨by rw [HR.out]; rfl, HB.out⟩
   have q2 : decide ((n : Int) <= (r.length : Int)) = true := decide_eq_true (by omega)
   have hjn : j + n <= l.length := by have := HLN.out; omega
   obtain ⟨c, t, rfl⟩ : ∃ c t, r = c :: t := by
     cases r with
     | nil => simp at hlr; omega
     | cons c t => exact ⟨c, t, rfl⟩
   have hc : l.getD j 0 = c := by
     have h1 : (l.drop j).getD 0 0 = c := by rw [hr]; rfl
     simpa [List.getD] using h1
   have HC := Lib.hid hc
   have hD := Lib.hid hr
   clear hc
   have q5 : decide (n <= (c :: t).length) = true := decide_eq_true hlr
   simp only [List.length_cons] at hlr q2 q5 HLN
   by_cases hd : n = 1 /\ c = 46
   · obtain ⟨rfl, rfl⟩ := hd
     have HR : Hid (pcF l j true 1 = (0, false)) := Lib.hid (by rw [pcF_dot (by omega) HC.out]; rfl)
     clear HE2 h4 hD HC
     go_wp2_with (go_at_call 206; (with_reducible refine (BB.out _).mono ?_); rintro e w1 ⟨rfl, hw⟩; rw [hw]; clear hw)
     go_ret2
     exact ⟨by rw [HR.out]; rfl, HB.out⟩
   have HD := Lib.hid hd
   obtain ⟨m, hm⟩ : ∃ m, n = m + 1 := ⟨n - 1, by omega⟩
   have ht : List.take n (c :: t) = c :: t.take m := by rw [hm]; rfl
   obtain ⟨s, hs⟩ : ∃ s, t.take m = s := ⟨_, rfl⟩
   rw [hs] at ht
   have hsl : s.length <= 3 := by rw [<- hs]; simp; omega
   have hst : s.length <= t.length := by rw [<- hs]; simp; omega
   clear hs hm
   have q3 : ((n : Int) == 1) = false \/ (((n : Int) == 1) = true /\ ((c.toNat : Int) == 46) = false) := by
     by_cases h1 : n = 1
     · exact .inr ⟨by rw [h1]; rfl, beq_eq_false_iff_ne.2 (fun h => hd ⟨h1, UInt8.toNat_inj.1 (by simpa using (by omega : c.toNat = 46))⟩)⟩
     · exact .inl (beq_eq_false_iff_ne.2 (by omega))
   clear hd
   have WA : IntKind.i64.wrap ((n : Int) + 1) = (n : Int) + 1 := IntWalk.i64_in _ (by omega)
   have n0 : (0 : Int) <= (n : Int) := by omega
   have n1 : (n : Int) <= (t.length : Int) + 1 := by omega
   have HT0 : Hid (List.take n (List.drop j l) = c :: s) := Lib.hid (by rw [hD.out]; exact ht)
   have TRY : ∀ x, tryT (c :: s) true = x -> Hid (pcF l j true n = if locOk x = true then (n, false) else pcF l j true (n + 1)) := fun x hx => Lib.hid (by
     subst hx
     cases h : locOk (tryT (c :: s) true) with
     | true => rw [pcF_ok ⟨h4, hjn⟩ (by rw [HC.out]; exact HD.out) (by rw [HT0.out]; exact h)]; rfl
     | false => rw [pcF_go ⟨h4, hjn⟩ (by rw [HC.out]; exact HD.out) (by rw [HT0.out]; exact h)]; rfl)
   have TX := TRY (c :: s) (by unfold tryT; rw [if_neg (by simp)])
   clear TRY
   obtain ⟨y, hy⟩ : ∃ y, locF (c :: s) 0 = y := ⟨_, rfl⟩
   have hok : locOk (c :: s) = okR y := by unfold locOk; rw [hy]
   rcases y with says | bad
   · have LO := Lib.hid (fun (u : World) (hb : Below w.heap.size w u) => lexLoc_ok (c :: s) says (by simp; omega) hy u (TT.out u hb))
     have HR : Hid (pcF l j true 1 = (n, false)) := Lib.hid (by rw [HE2.out, TX.out, hok]; rfl)
     clear TX hok hy HE2 hD HC HD HT0
     rcases q3 with q3 | ⟨q3, q4⟩
     · go_wp2_with (go_at_call 109; (with_reducible refine (LO.out _ HB.out).mono ?_); rintro e w2 ⟨rfl, hb2⟩; have HB2 := Lib.hid (HB.out.trans (hb2.mono HB.out.size)); clear hb2)
       go_ret2
       exact ⟨by rw [HR.out]; rfl, HB2.out⟩
     · go_wp2_with (go_at_call 109; (with_reducible refine (LO.out _ HB.out).mono ?_); rintro e w2 ⟨rfl, hb2⟩; have HB2 := Lib.hid (HB.out.trans (hb2.mono HB.out.size)); clear hb2)
       go_ret2
       exact ⟨by rw [HR.out]; rfl, HB2.out⟩
   · have LO := Lib.hid (fun (u : World) (hb : Below w.heap.size w u) => lexLoc_bad (c :: s) (by simp; omega) hy u (TT.out u hb))
     have HN : Hid (pcF l j true (n + 1) = pcF l j true 1) := Lib.hid (by rw [HE2.out, TX.out, hok]; rfl)
     clear TX hok hy HE2 hD HC HD HT0
     rcases q3 with q3 | ⟨q3, q4⟩
     · go_wp2_with (go_at_call 109; (with_reducible refine (LO.out _ HB.out).mono ?_); rintro e w2 ⟨⟨b, rfl⟩, hb2⟩; have HB2 := Lib.hid (HB.out.trans (hb2.mono HB.out.size)); clear hb2)
       go_roundw
       case rel => exact ⟨n + 1, by go_num, by omega, by omega, HN, HB2⟩
       case measure => simp [intOf]; omega
     · go_wp2_with (go_at_call 109; (with_reducible refine (LO.out _ HB.out).mono ?_); rintro e w2 ⟨⟨b, rfl⟩, hb2⟩; have HB2 := Lib.hid (HB.out.trans (hb2.mono HB.out.size)); clear hb2)
       go_roundw
       case rel => exact ⟨n + 1, by go_num, by omega, by omega, HN, HB2⟩
       case measure => simp [intOf]; omega
set_option maxHeartbeats 3200000 in
theorem lexPiece_false (l : List UInt8) (j : Nat) (w : World) (hj : j <= l.length) (_hl : l.length <= 16777216) (hT : TabAt w) : Calls Tryz.prog 155 #[.string (B l), .int .i64 (j : Int), .bool false] w fun e w' => e = .returned (.tuple #[.int .i64 ((pcF l j false 1).1 : Int), .bool (pcF l j false 1).2]) /\ Below w.heap.size w w' := by
 have TT := Lib.hid (fun (u : World) (hb : Below w.heap.size w u) => hT.below hb)
 have HB0 : Hid (Below w.heap.size w w) := Lib.hid (Below.refl _ _)
 have BB := Lib.hid (fun (u : World) => lexB_l false u)
 clear hT
 have hj1 : (j : Int) <= (l.length : Int) := by omega
 have hj0 : (0 : Int) <= (j : Int) := by omega
 obtain ⟨r, hr⟩ : ∃ r, List.drop j l = r := ⟨_, rfl⟩
 have hlen : r.length = l.length - j := by rw [<- hr]; simp
 have HLN := Lib.hid hlen
 have htk : List.take (l.length - j) r = r := List.take_of_length_le (by omega)
 clear hlen
 go_enter Tryz.func155, Tryz.ntmps155
 go_wp2
 go_loopw [9] (fun z wr => ∃ n : Nat, z = .int .i64 (n : Int) /\ 1 <= n /\ n <= 5 /\ Hid (pcF l j false n = pcF l j false 1) /\ Hid (Below w.heap.size w wr)) (fun z _ => 6 - (intOf z).toNat)
 case atStart => exact ⟨1, rfl, Nat.le_refl _, by omega, Lib.hid rfl, HB0⟩
 case round =>
   obtain ⟨n, rfl, hn1, hn5, HE, HB⟩ := hrel
   obtain ⟨W0, hW0⟩ : ∃ W0 : World, W0 = wr := ⟨_, rfl⟩
   subst hW0
   clear HB0 htk
   have HE2 : Hid (pcF l j false 1 = pcF l j false n) := Lib.hid HE.out.symm
   clear HE
   by_cases h4 : n <= 4
   case neg =>
     have q1 : decide ((n : Int) <= 4) = false := decide_eq_false (by omega)
     have HR : Hid (pcF l j false 1 = (0, false)) := Lib.hid (by rw [HE2.out, pcF_out (by omega)])
     clear HE2 h4 hr
     go_wp2
     go_ret2
     exact ⟨by rw [HR.out]; rfl, HB.out⟩
   have q1 : decide ((n : Int) <= 4) = true := decide_eq_true (by omega)
   by_cases hlr : n <= r.length
   case neg =>
     have q2 : decide ((n : Int) <= (r.length : Int)) = false := decide_eq_false (by omega)
     have q3 : decide (n <= r.length) = false := decide_eq_false hlr
     have HR : Hid (pcF l j false 1 = (0, false)) := Lib.hid (by rw [HE2.out, pcF_out (by have := HLN.out; omega)])
     clear HE2 h4 hr hlr
     go_wp2
     go_ret2
     exact ⟨by rw [HR.out]; rfl, HB.out⟩
   have q2 : decide ((n : Int) <= (r.length : Int)) = true := decide_eq_true (by omega)
   have hjn : j + n <= l.length := by have := HLN.out; omega
   obtain ⟨c, t, rfl⟩ : ∃ c t, r = c :: t := by
     cases r with
     | nil => simp at hlr; omega
     | cons c t => exact ⟨c, t, rfl⟩
   have hc : l.getD j 0 = c := by
     have h1 : (l.drop j).getD 0 0 = c := by rw [hr]; rfl
     simpa [List.getD] using h1
   have HC := Lib.hid hc
   have hD := Lib.hid hr
   clear hc
   have q5 : decide (n <= (c :: t).length) = true := decide_eq_true hlr
   simp only [List.length_cons] at hlr q2 q5 HLN
   by_cases hd : n = 1 /\ c = 46
   · obtain ⟨rfl, rfl⟩ := hd
     have HR : Hid (pcF l j false 1 = (1, true)) := Lib.hid (by rw [pcF_dot (by omega) HC.out]; rfl)
     clear HE2 h4 hD HC
     go_wp2_with (go_at_call 206; (with_reducible refine (BB.out _).mono ?_); rintro e w1 ⟨rfl, hw⟩; rw [hw]; clear hw)
     go_ret2
     exact ⟨by rw [HR.out]; rfl, HB.out⟩
   have HD := Lib.hid hd
   obtain ⟨m, hm⟩ : ∃ m, n = m + 1 := ⟨n - 1, by omega⟩
   have ht : List.take n (c :: t) = c :: t.take m := by rw [hm]; rfl
   obtain ⟨s, hs⟩ : ∃ s, t.take m = s := ⟨_, rfl⟩
   rw [hs] at ht
   have hsl : s.length <= 3 := by rw [<- hs]; simp; omega
   have hst : s.length <= t.length := by rw [<- hs]; simp; omega
   clear hs hm
   have q3 : ((n : Int) == 1) = false \/ (((n : Int) == 1) = true /\ ((c.toNat : Int) == 46) = false) := by
     by_cases h1 : n = 1
     · exact .inr ⟨by rw [h1]; rfl, beq_eq_false_iff_ne.2 (fun h => hd ⟨h1, UInt8.toNat_inj.1 (by simpa using (by omega : c.toNat = 46))⟩)⟩
     · exact .inl (beq_eq_false_iff_ne.2 (by omega))
   clear hd
   have WA : IntKind.i64.wrap ((n : Int) + 1) = (n : Int) + 1 := IntWalk.i64_in _ (by omega)
   have n0 : (0 : Int) <= (n : Int) := by omega
   have n1 : (n : Int) <= (t.length : Int) + 1 := by omega
   have HT0 : Hid (List.take n (List.drop j l) = c :: s) := Lib.hid (by rw [hD.out]; exact ht)
   have TRY : ∀ x, tryT (c :: s) false = x -> Hid (pcF l j false n = if locOk x = true then (n, false) else pcF l j false (n + 1)) := fun x hx => Lib.hid (by
     subst hx
     cases h : locOk (tryT (c :: s) false) with
     | true => rw [pcF_ok ⟨h4, hjn⟩ (by rw [HC.out]; exact HD.out) (by rw [HT0.out]; exact h)]; rfl
     | false => rw [pcF_go ⟨h4, hjn⟩ (by rw [HC.out]; exact HD.out) (by rw [HT0.out]; exact h)]; rfl)
   have e9 : (⟨#[97]⟩ : ByteArray) ++ B (c :: s) = B (97 :: c :: s) := B_append [97] (c :: s)
   have E9 := Lib.hid e9
   clear e9
   by_cases h1 : c = 37
   · subst h1
     have TX := TRY (37 :: s) (by unfold tryT; rw [if_neg (by simp)])
     clear TRY
     obtain ⟨y, hy⟩ : ∃ y, locF (37 :: s) 0 = y := ⟨_, rfl⟩
     have hok : locOk (37 :: s) = okR y := by unfold locOk; rw [hy]
     rcases y with says | bad
     · have LO := Lib.hid (fun (u : World) (hb : Below w.heap.size w u) => lexLoc_ok (37 :: s) says (by simp; omega) hy u (TT.out u hb))
       have HR : Hid (pcF l j false 1 = (n, false)) := Lib.hid (by rw [HE2.out, TX.out, hok]; rfl)
       clear TX hok hy HE2 hD HC HD HT0
       rcases q3 with q3 | ⟨q3, q4⟩
       · go_wp2_with (go_at_call 109; (with_reducible refine (LO.out _ HB.out).mono ?_); rintro e w2 ⟨rfl, hb2⟩; have HB2 := Lib.hid (HB.out.trans (hb2.mono HB.out.size)); clear hb2)
         go_ret2
         exact ⟨by rw [HR.out]; rfl, HB2.out⟩
       · go_wp2_with (go_at_call 109; (with_reducible refine (LO.out _ HB.out).mono ?_); rintro e w2 ⟨rfl, hb2⟩; have HB2 := Lib.hid (HB.out.trans (hb2.mono HB.out.size)); clear hb2)
         go_ret2
         exact ⟨by rw [HR.out]; rfl, HB2.out⟩
     · have LO := Lib.hid (fun (u : World) (hb : Below w.heap.size w u) => lexLoc_bad (37 :: s) (by simp; omega) hy u (TT.out u hb))
       have HN : Hid (pcF l j false (n + 1) = pcF l j false 1) := Lib.hid (by rw [HE2.out, TX.out, hok]; rfl)
       clear TX hok hy HE2 hD HC HD HT0
       rcases q3 with q3 | ⟨q3, q4⟩
       · go_wp2_with (go_at_call 109; (with_reducible refine (LO.out _ HB.out).mono ?_); rintro e w2 ⟨⟨b, rfl⟩, hb2⟩; have HB2 := Lib.hid (HB.out.trans (hb2.mono HB.out.size)); clear hb2)
         go_roundw
         case rel => exact ⟨n + 1, by go_num, by omega, by omega, HN, HB2⟩
         case measure => simp [intOf]; omega
       · go_wp2_with (go_at_call 109; (with_reducible refine (LO.out _ HB.out).mono ?_); rintro e w2 ⟨⟨b, rfl⟩, hb2⟩; have HB2 := Lib.hid (HB.out.trans (hb2.mono HB.out.size)); clear hb2)
         go_roundw
         case rel => exact ⟨n + 1, by go_num, by omega, by omega, HN, HB2⟩
         case measure => simp [intOf]; omega
   have k1 : ((c.toNat : Int) != 37) = true := byte_nei (d := 37) h1
   by_cases h2 : c = 92
   · subst h2
     have TX := TRY (92 :: s) (by unfold tryT; rw [if_neg (by simp)])
     clear TRY
     obtain ⟨y, hy⟩ : ∃ y, locF (92 :: s) 0 = y := ⟨_, rfl⟩
     have hok : locOk (92 :: s) = okR y := by unfold locOk; rw [hy]
     rcases y with says | bad
     · have LO := Lib.hid (fun (u : World) (hb : Below w.heap.size w u) => lexLoc_ok (92 :: s) says (by simp; omega) hy u (TT.out u hb))
       have HR : Hid (pcF l j false 1 = (n, false)) := Lib.hid (by rw [HE2.out, TX.out, hok]; rfl)
       clear TX hok hy HE2 hD HC HD HT0
       rcases q3 with q3 | ⟨q3, q4⟩
       · go_wp2_with (go_at_call 109; (with_reducible refine (LO.out _ HB.out).mono ?_); rintro e w2 ⟨rfl, hb2⟩; have HB2 := Lib.hid (HB.out.trans (hb2.mono HB.out.size)); clear hb2)
         go_ret2
         exact ⟨by rw [HR.out]; rfl, HB2.out⟩
       · go_wp2_with (go_at_call 109; (with_reducible refine (LO.out _ HB.out).mono ?_); rintro e w2 ⟨rfl, hb2⟩; have HB2 := Lib.hid (HB.out.trans (hb2.mono HB.out.size)); clear hb2)
         go_ret2
         exact ⟨by rw [HR.out]; rfl, HB2.out⟩
     · have LO := Lib.hid (fun (u : World) (hb : Below w.heap.size w u) => lexLoc_bad (92 :: s) (by simp; omega) hy u (TT.out u hb))
       have HN : Hid (pcF l j false (n + 1) = pcF l j false 1) := Lib.hid (by rw [HE2.out, TX.out, hok]; rfl)
       clear TX hok hy HE2 hD HC HD HT0
       rcases q3 with q3 | ⟨q3, q4⟩
       · go_wp2_with (go_at_call 109; (with_reducible refine (LO.out _ HB.out).mono ?_); rintro e w2 ⟨⟨b, rfl⟩, hb2⟩; have HB2 := Lib.hid (HB.out.trans (hb2.mono HB.out.size)); clear hb2)
         go_roundw
         case rel => exact ⟨n + 1, by go_num, by omega, by omega, HN, HB2⟩
         case measure => simp [intOf]; omega
       · go_wp2_with (go_at_call 109; (with_reducible refine (LO.out _ HB.out).mono ?_); rintro e w2 ⟨⟨b, rfl⟩, hb2⟩; have HB2 := Lib.hid (HB.out.trans (hb2.mono HB.out.size)); clear hb2)
         go_roundw
         case rel => exact ⟨n + 1, by go_num, by omega, by omega, HN, HB2⟩
         case measure => simp [intOf]; omega
   have k2 : ((c.toNat : Int) != 92) = true := byte_nei (d := 92) h2
   have TX := TRY (97 :: c :: s) (by unfold tryT; rw [if_pos ⟨rfl, h1, h2⟩])
   clear TRY
   obtain ⟨y, hy⟩ : ∃ y, locF (97 :: c :: s) 0 = y := ⟨_, rfl⟩
   have hok : locOk (97 :: c :: s) = okR y := by unfold locOk; rw [hy]
   rcases y with says | bad
   · have LO := Lib.hid (fun (u : World) (hb : Below w.heap.size w u) => lexLoc_ok (97 :: c :: s) says (by simp; omega) hy u (TT.out u hb))
     rw [<- E9.out] at LO
     have HR : Hid (pcF l j false 1 = (n, false)) := Lib.hid (by rw [HE2.out, TX.out, hok]; rfl)
     clear TX hok hy HE2 hD HC HD HT0
     rcases q3 with q3 | ⟨q3, q4⟩
     · go_wp2_with (go_at_call 109; (with_reducible refine (LO.out _ HB.out).mono ?_); rintro e w2 ⟨rfl, hb2⟩; have HB2 := Lib.hid (HB.out.trans (hb2.mono HB.out.size)); clear hb2)
       go_ret2
       exact ⟨by rw [HR.out]; rfl, HB2.out⟩
     · go_wp2_with (go_at_call 109; (with_reducible refine (LO.out _ HB.out).mono ?_); rintro e w2 ⟨rfl, hb2⟩; have HB2 := Lib.hid (HB.out.trans (hb2.mono HB.out.size)); clear hb2)
       go_ret2
       exact ⟨by rw [HR.out]; rfl, HB2.out⟩
   · have LO := Lib.hid (fun (u : World) (hb : Below w.heap.size w u) => lexLoc_bad (97 :: c :: s) (by simp; omega) hy u (TT.out u hb))
     rw [<- E9.out] at LO
     have HN : Hid (pcF l j false (n + 1) = pcF l j false 1) := Lib.hid (by rw [HE2.out, TX.out, hok]; rfl)
     clear TX hok hy HE2 hD HC HD HT0
     rcases q3 with q3 | ⟨q3, q4⟩
     · go_wp2_with (go_at_call 109; (with_reducible refine (LO.out _ HB.out).mono ?_); rintro e w2 ⟨⟨b, rfl⟩, hb2⟩; have HB2 := Lib.hid (HB.out.trans (hb2.mono HB.out.size)); clear hb2)
       go_roundw
       case rel => exact ⟨n + 1, by go_num, by omega, by omega, HN, HB2⟩
       case measure => simp [intOf]; omega
     · go_wp2_with (go_at_call 109; (with_reducible refine (LO.out _ HB.out).mono ?_); rintro e w2 ⟨⟨b, rfl⟩, hb2⟩; have HB2 := Lib.hid (HB.out.trans (hb2.mono HB.out.size)); clear hb2)
       go_roundw
       case rel => exact ⟨n + 1, by go_num, by omega, by omega, HN, HB2⟩
       case measure => simp [intOf]; omega
theorem lexPiece_l (l : List UInt8) (j : Nat) (f : Bool) (w : World) (hj : j <= l.length) (hl : l.length <= 16777216) (hT : TabAt w) : Calls Tryz.prog 155 #[.string (B l), .int .i64 (j : Int), .bool f] w fun e w' => e = .returned (.tuple #[.int .i64 ((pcF l j f 1).1 : Int), .bool (pcF l j f 1).2]) /\ Below w.heap.size w w' := by
 cases f
 · exact lexPiece_false l j w hj hl hT
 · exact lexPiece_true l j w hj hl hT
set_option maxHeartbeats 3200000 in
theorem lexLocal_l (l : List UInt8) (a : Nat) (w : World) (ha : a <= l.length) (hl : l.length <= 16777216) (hT : TabAt w) : Calls Tryz.prog 108 #[.string (B l), .int .i64 (a : Int)] w fun e w' => e = .returned (.int .i64 ((locP l a a a - a : Nat) : Int)) /\ Below w.heap.size w w' := by
 have PI := Lib.hid (fun (k : Nat) (f : Bool) (hk : k <= l.length) (u : World) (hb : Below w.heap.size w u) => lexPiece_l l k f u hk hl (hT.below hb))
 have HB0 : Hid (Below w.heap.size w w) := Lib.hid (Below.refl _ _)
 clear hT
 go_enter Tryz.func108, Tryz.ntmps108
 go_wp2
 go_loopw [5, 6] (fun y z wr => ∃ (e k : Nat), y = .int .i64 (e : Int) /\ z = .int .i64 (k : Int) /\ a <= e /\ e <= k /\ k <= l.length /\ Hid (locP l a k e = locP l a a a) /\ Hid (Below w.heap.size w wr)) (fun _ z _ => l.length - (intOf z).toNat)
 case atStart => exact ⟨a, a, rfl, rfl, Nat.le_refl _, Nat.le_refl _, ha, Lib.hid rfl, HB0⟩
 case round =>
   obtain ⟨e, k, rfl, rfl, hae, hek, hk, HE, HB⟩ := hrel
   obtain ⟨W0, hW0⟩ : ∃ W0 : World, W0 = wr := ⟨_, rfl⟩
   subst hW0
   clear HB0
   obtain ⟨f, hf⟩ : ∃ f, decide (k = a) = f := ⟨_, rfl⟩
   have kf : ((k : Int) == (a : Int)) = f := by
     rw [<- hf]
     by_cases h : k = a
     · rw [h, decide_eq_true rfl, beq_self_eq_true]
     · rw [decide_eq_false h, beq_eq_false_iff_ne.2 (by omega)]
   have P1 := Lib.hid (PI.out k f hk W0 HB.out)
   have hb := pcF_bound l k f
   obtain ⟨⟨n, d⟩, hp⟩ : ∃ p, pcF l k f 1 = p := ⟨_, rfl⟩
   rw [hp] at P1 hb
   simp only at hb
   have P2 : Hid (Calls Tryz.prog 155 #[.string (B l), .int .i64 (k : Int), .bool f] W0 fun e w' => e = .returned (.tuple #[.int .i64 (n : Int), .bool d]) /\ Below W0.heap.size W0 w') := P1
   clear P1 PI
   rw [<- hf] at hp
   have WS : IntKind.i64.wrap ((e : Int) - (a : Int)) = (e : Int) - (a : Int) := IntWalk.i64_in _ (by omega)
   have WA : IntKind.i64.wrap ((k : Int) + (n : Int)) = (k : Int) + (n : Int) := IntWalk.i64_in _ (by omega)
   by_cases hn : n = 0
   · subst hn
     have HR : Hid (((locP l a a a - a : Nat) : Int) = (e : Int) - (a : Int)) := Lib.hid (by rw [<- HE.out, locP_stop (by rw [hp])]; omega)
     clear hp HE hf
     go_wp2_with (go_at_call 155; (with_reducible refine P2.out.mono ?_); rintro e w2 ⟨rfl, hb2⟩; have HB2 := Lib.hid (HB.out.trans (hb2.mono HB.out.size)); clear hb2)
     go_ret
     exact ⟨by rw [HR.out]; rfl, HB2.out⟩
   have kn : ((n : Int) == 0) = false := beq_eq_false_iff_ne.2 (by omega)
   have HN : Hid (locP l a (k + n) (if d = true then e else k + n) = locP l a a a) := Lib.hid (by rw [<- HE.out, locP_go hp hn])
   clear hp HE hf
   cases d
   · go_wp2_with (go_at_call 155; (with_reducible refine P2.out.mono ?_); rintro e w2 ⟨rfl, hb2⟩; have HB2 := Lib.hid (HB.out.trans (hb2.mono HB.out.size)); clear hb2)
     go_roundw
     case rel => exact ⟨k + n, k + n, by go_num, by go_num, by omega, Nat.le_refl _, by omega, HN, HB2⟩
     case measure => simp [intOf]; omega
   · go_wp2_with (go_at_call 155; (with_reducible refine P2.out.mono ?_); rintro e w2 ⟨rfl, hb2⟩; have HB2 := Lib.hid (HB.out.trans (hb2.mono HB.out.size)); clear hb2)
     go_roundw
     case rel => exact ⟨e, k + n, rfl, by go_num, by omega, by omega, by omega, HN, HB2⟩
     case measure => simp [intOf]; omega
end Go.Proofs.YtdhmpakhdhdebaaGreatDoor
