/-
  lexis.Lexer.named: a contract. By an AI agent.
-/
import Derived.Test.YtdhmpakhdhdebaaGreatDoorZLexW9
import Derived.Test.YtdhmpakhdhdebaaGreatDoorZShapes
namespace Go.Proofs.YtdhmpakhdhdebaaGreatDoor
open Go.Lib (hid)
open Go.RowKit
set_option maxRecDepth 100000
theorem has_one (l : List UInt8) (i : Nat) (d : UInt8) : Lib.hasPrefix (List.drop i l) [d] = decide (i < l.length /\ l.getD i 0 = d) := by
 by_cases h : i < l.length
 ·have hg : l.getD i 0 = l[i] := by simp [List.getD, h]
  rw [List.drop_eq_getElem_cons h, hg]
  show (d == l[i] && true) = _
  rw [Bool.and_true]
  by_cases e : l[i] = d
  ·rw [e, beq_self_eq_true, decide_eq_true ⟨h, rfl⟩]
  ·rw [beq_eq_false_iff_ne.2 (fun x => e x.symm), decide_eq_false (fun x => e x.2)]
 ·rw [List.drop_eq_nil_of_le (by omega), decide_eq_false (fun x => h x.1)]
  rfl
theorem quiet_same2 {P : Program} {f : FuncId} {args : Array Value} {w : World} {q a : Nat} {v : Value} (h : Calls P f args (w.drewN (q + a)) fun e w' => e = .returned v /\ w' = w.drewN (q + a)) : Calls P f args (w.drewN (q + a)) fun e w'' => e = .returned v /\ ∃ m, w'' = w.drewN (q + m) := h.mono fun _ _ ⟨he, hm⟩ => ⟨he, a, hm⟩
theorem named_ix0 (w : World) : (Instr.index 199 (.agg #[.string { data := #[80, 82, 69, 70, 73, 88] }, .string { data := #[66, 65, 83, 69] }, .string { data := #[71, 82, 65, 80, 72] }]) (.int .i64 0)).run Tryz.prog w = .ok (.string { data := #[80, 82, 69, 70, 73, 88] }) w := by kernel_rfl
theorem named_ix1 (w : World) : (Instr.index 199 (.agg #[.string { data := #[80, 82, 69, 70, 73, 88] }, .string { data := #[66, 65, 83, 69] }, .string { data := #[71, 82, 65, 80, 72] }]) (.int .i64 1)).run Tryz.prog w = .ok (.string { data := #[66, 65, 83, 69] }) w := by kernel_rfl
theorem named_ix2 (w : World) : (Instr.index 199 (.agg #[.string { data := #[80, 82, 69, 70, 73, 88] }, .string { data := #[66, 65, 83, 69] }, .string { data := #[71, 82, 65, 80, 72] }]) (.int .i64 2)).run Tryz.prog w = .ok (.string { data := #[71, 82, 65, 80, 72] }) w := by kernel_rfl
theorem prefix_num (l : List UInt8) : prefixNum l = if prefOk l = true then 0 else 62 := by
 unfold prefixNum prefOk
 by_cases h : l = []
 ·rw [if_pos h, decide_eq_true h]; rfl
 ·rw [if_neg h, decide_eq_false h, Bool.false_or]
theorem prefE_none {l : List UInt8} {i : Nat} (h : prefE l i = none) : (decide (wordE l true i < l.length /\ l.getD (wordE l true i) 0 = 58) && prefOk (cutF l i (wordE l true i))) = false := by
 unfold prefE at h
 cases hb : (decide (wordE l true i < l.length /\ l.getD (wordE l true i) 0 = 58) && prefOk (cutF l i (wordE l true i))) with
 | false => rfl
 | true =>
  simp only [Bool.and_eq_true, decide_eq_true_eq] at hb
  rw [if_pos ⟨hb.1.1, hb.1.2, hb.2⟩] at h
  cases h
set_option maxHeartbeats 6400000 in
theorem lexNamed_1 (l : List UInt8) (bad : Int) (i : Nat) (ev : Value) (b : Nat) (w : World) (h : LexAt w b l bad i ev) (hi : i < l.length) (hl : l.length <= 4194304) (hT : TabAt w) (hE : prefE l i = some (wordE l true i)) :
  Calls Tryz.prog 74 #[.pointer (some ⟨b, 0, none⟩)] w fun e w' => TokRet e i (nameG l i) /\ Below w.heap.size w w' := by
 obtain ⟨he1, he2, he3, he4⟩ := prefE_some hE
 obtain ⟨m, hm⟩ : ∃ m, wordE l true i = m := ⟨_, rfl⟩
 obtain ⟨n, hn⟩ : ∃ n, m - i = n := ⟨_, rfl⟩
 have hwe := wordE_bound l true l.length i (by omega) (by omega)
 have WD := hid (fun (u : World) (hb : Below w.heap.size w u) => hn ▸ hm ▸ lexWord_l l i true u (by omega) (by omega) (hT.below hb))
 rw [hm] at he2 he3 he4 hwe
 have hnm : (i : Int) + (n : Int) = (m : Int) := by omega
 obtain ⟨p, hp⟩ : ∃ p, List.take (m - i) (List.drop i l) = p := ⟨_, rfl⟩
 have hcp : cutF l i m = p := hp
 rw [hcp] at he4
 have hpl : p.length <= 4194304 := by rw [<- hp]; simp; omega
 obtain ⟨L, hL⟩ : ∃ L, localG l (m + 1) = L := ⟨_, rfl⟩
 obtain ⟨e, c⟩ := L
 have hlb := localG_bound (l := l) (i := m + 1) (by omega)
 have hls := localG_says (l := l) (i := m + 1) (by omega)
 have hlp := localP_eq l (m + 1)
 rw [hL] at hlb hls hlp
 simp only at hlb hls hlp
 obtain ⟨k, hk⟩ : ∃ k, e - (m + 1) = k := ⟨_, rfl⟩
 obtain ⟨x, hx⟩ : ∃ x, List.take (e - (m + 1)) (List.drop (m + 1) l) = x := ⟨_, rfl⟩
 have hcx : cutF l (m + 1) e = x := hx
 rw [hcx] at hls
 have hxl : x.length <= 4194304 := by rw [<- hx]; simp; omega
 have HI : Hid (nameG l i = .inl ⟨2, p, c, [], (i : Nat), (e : Nat)⟩) := hid (by unfold nameG; rw [hE, hm]; simp only; rw [hcp, hL])
 have LO := hid (fun (u : World) (hb : Below w.heap.size w u) => (show (((locP l (m + 1) (m + 1) (m + 1) - (m + 1) : Nat) : Nat) : Int) = (k : Int) by rw [hlp, hk]) ▸ lexLocal_l l (m + 1) u (by omega) (by omega) (hT.below hb))
 have e1 : ((m + 1 : Nat) : Int) = (m : Int) + 1 := by omega
 rw [e1] at LO
 have LC := hid (fun (u : World) (hb : Below w.heap.size w u) => lexLoc_ok x c (by omega) hls u (hT.below hb))
 have PR : Hid (∀ u, Below w.heap.size w u -> Calls Tryz.prog 107 #[.string (B p)] u fun e w' => e = .returned (.int .i64 0) /\ w' = u) := hid (fun u hb => by have := prefix_l p u (by omega) (hT.below hb); rw [prefix_num, if_pos he4] at this; exact this)
 have HQ : Hid (∀ u, Calls Tryz.prog 73 #[.string (B (List.drop m l)), .string { data := #[58] }] u fun e w' => e = .returned (.bool true) /\ w' = u) := hid (fun u => by
  have := Tryz.strings_HasPrefix (B (List.drop m l)) { data := #[58] } u
  rw [show (B (List.drop m l)).data.toList = List.drop m l from B_toList _, show ({ data := #[58] } : ByteArray).data.toList = [58] from rfl, has_one, decide_eq_true ⟨he2, he3⟩] at this
  exact this)
 have tk : List.take (l.length - m) (List.drop m l) = List.drop m l := List.take_of_length_le (by simp)
 have WN : IntKind.i64.wrap ((i : Int) + (n : Int)) = (m : Int) := by rw [hnm]; exact IntWalk.i64_in _ (by omega)
 have q0 : (i : Int) <= (m : Int) := by omega
 have q1 : (0 : Int) <= (m : Int) := by omega
 have q2 : (m : Int) <= (l.length : Int) := by omega
 have WA : IntKind.i64.wrap ((m : Int) + 1) = (m : Int) + 1 := IntWalk.i64_in _ (by omega)
 have WB : IntKind.i64.wrap ((m : Int) + 1 + (k : Int)) = (e : Int) := by rw [show (m : Int) + 1 + (k : Int) = (e : Int) by omega]; exact IntWalk.i64_in _ (by omega)
 have WC : IntKind.i64.wrap ((n : Int) + 1) = (n : Int) + 1 := IntWalk.i64_in _ (by omega)
 have WE : IntKind.i64.wrap ((n : Int) + 1 + (k : Int)) = (n : Int) + 1 + (k : Int) := IntWalk.i64_in _ (by omega)
 have b1 : (0 : Int) <= (m : Int) + 1 := by omega
 have b2 : (m : Int) + 1 <= (e : Int) := by omega
 have b3 : (e : Int) <= (l.length : Int) := by omega
 have HFIN := hid (show (n : Int) + 1 + (k : Int) = (e : Int) - (i : Int) by omega)
 clear hE hn hm he1 he2 he3 he4 hcp hL hls hlp hk hcx hT e1 hpl hxl hnm
 obtain ⟨W, hW⟩ : ∃ W, (w.alloc (.cells #[.int .i64 0, .string ⟨#[]⟩, .string ⟨#[]⟩, .string ⟨#[]⟩, .int .i64 0, .int .i64 0] 50)).alloc (.cells #[.int .i64 0, .int .i64 0] 111) = W := ⟨_, rfl⟩
 have HB0 : Hid (Below w.heap.size w W) := hid (by rw [<- hW]; exact ((Below.refl _ _).alloc (Nat.le_refl _) _).alloc (by simp) _)
 have HK : Hid (TkAt W w.heap.size) := hid (by rw [<- hW]; exact tkAt_of (tk_new w).1 (tk_new w).2)
 have HX := hid (h.below HB0.out)
 have hn0 : ¬ b = w.heap.size := by have := h.lt; omega
 have hn1 : ¬ b = w.heap.size + 1 := by have := h.lt; omega
 have k0 : (0 : Int) <= (i : Int) := by omega
 have k1 : (i : Int) <= (l.length : Int) := by omega
 obtain ⟨x0, x1, x2, x3, f0, f1, f2, f3⟩ := RowAt.four HX.out
 have hbl := HX.out.lt
 obtain ⟨a0, a1, a2, a3, a4, a5, p0, p1, p2, p3, p4, p5, d0, d1, e0, e1, hlt⟩ := HK.out
 have hlt0 := Nat.lt_of_succ_lt hlt
 go_enter Tryz.func74, Tryz.ntmps74
 go_wp2_with fail
 go_region_with (go_at_call 106; (with_reducible refine (WD.out _ ?_).mono ?_); (first | (with_reducible exact HB0.out) | exact below_drewN_h HB0.out _ | exact below_same HB0.out (Below.refl _ _)); rintro e w3 ⟨rfl, hb⟩; replace HX := hid (@LexAt.below _ _ b l bad i ev (by exact HX.out) hb); replace HK := hid (@TkAt.below _ _ _ (by exact TkAt.same HK.out) hb); replace HB0 := hid (below_same HB0.out hb); clear x0 x1 x2 x3 f0 f1 f2 f3 hbl a0 a1 a2 a3 a4 a5 p0 p1 p2 p3 p4 p5 d0 d1 e0 e1 hlt hlt0 hb; obtain ⟨x0, x1, x2, x3, f0, f1, f2, f3⟩ := RowAt.four HX.out; have hbl := HX.out.lt; obtain ⟨a0, a1, a2, a3, a4, a5, p0, p1, p2, p3, p4, p5, d0, d1, e0, e1, hlt⟩ := HK.out; have hlt0 := Nat.lt_of_succ_lt hlt)
 all_goals (go_wp2_with fail)
 all_goals (go_quiet (fail))
 all_goals (go_wp2_with fail)
 all_goals (go_quiet ((first | (go_at_call 73; exact quiet_same2 (HQ.out _)) | (go_at_call 107; exact quiet_same2 (PR.out _ (by first | (with_reducible exact HB0.out) | exact below_drewN_h HB0.out _ | exact below_same HB0.out (Below.refl _ _)))))))
 all_goals (go_wp2_with (first | (go_at_call 108; (with_reducible refine (LO.out _ ?_).mono ?_); (first | (with_reducible exact HB0.out) | exact below_drewN_h HB0.out _ | exact below_same HB0.out (Below.refl _ _)); rintro e w3 ⟨rfl, hb⟩; replace HX := hid (@LexAt.below _ _ b l bad i ev (by exact HX.out) hb); replace HK := hid (@TkAt.below _ _ _ (by exact TkAt.same HK.out) hb); replace HB0 := hid (below_same HB0.out hb); clear x0 x1 x2 x3 f0 f1 f2 f3 hbl a0 a1 a2 a3 a4 a5 p0 p1 p2 p3 p4 p5 d0 d1 e0 e1 hlt hlt0 hb; obtain ⟨x0, x1, x2, x3, f0, f1, f2, f3⟩ := RowAt.four HX.out; have hbl := HX.out.lt; obtain ⟨a0, a1, a2, a3, a4, a5, p0, p1, p2, p3, p4, p5, d0, d1, e0, e1, hlt⟩ := HK.out; have hlt0 := Nat.lt_of_succ_lt hlt) | (go_at_call 109; (with_reducible refine (LC.out _ ?_).mono ?_); (first | (with_reducible exact HB0.out) | exact below_drewN_h HB0.out _ | exact below_same HB0.out (Below.refl _ _)); rintro e w3 ⟨rfl, hb⟩; replace HX := hid (@LexAt.below _ _ b l bad i ev (by exact HX.out) hb); replace HK := hid (@TkAt.below _ _ _ (by exact TkAt.same HK.out) hb); replace HB0 := hid (below_same HB0.out hb); clear x0 x1 x2 x3 f0 f1 f2 f3 hbl a0 a1 a2 a3 a4 a5 p0 p1 p2 p3 p4 p5 d0 d1 e0 e1 hlt hlt0 hb; obtain ⟨x0, x1, x2, x3, f0, f1, f2, f3⟩ := RowAt.four HX.out; have hbl := HX.out.lt; obtain ⟨a0, a1, a2, a3, a4, a5, p0, p1, p2, p3, p4, p5, d0, d1, e0, e1, hlt⟩ := HK.out; have hlt0 := Nat.lt_of_succ_lt hlt)))
 all_goals exact tok_done rfl HK.out HB0.out rfl rfl (by rw [HI.out]; exact tokRet_of (t := ⟨2, p, c, [], (i : Nat), (e : Nat)⟩) rfl rfl rfl HFIN.out)
set_option maxHeartbeats 6400000 in
theorem lexNamed_2 (l : List UInt8) (bad : Int) (i : Nat) (ev : Value) (b : Nat) (w : World) (h : LexAt w b l bad i ev) (hi : i < l.length) (hl : l.length <= 4194304) (hT : TabAt w) (hE : prefE l i = none) :
  Calls Tryz.prog 74 #[.pointer (some ⟨b, 0, none⟩)] w fun e w' => TokRet e i (nameG l i) /\ Below w.heap.size w w' := by
 have TS0 := named_ix0
 have TS1 := named_ix1
 have TS2 := named_ix2
 obtain ⟨m, hm⟩ : ∃ m, wordE l true i = m := ⟨_, rfl⟩
 obtain ⟨n, hn⟩ : ∃ n, m - i = n := ⟨_, rfl⟩
 have hwe := wordE_bound l true l.length i (by omega) (by omega)
 have WD := hid (fun (u : World) (hb : Below w.heap.size w u) => hn ▸ hm ▸ lexWord_l l i true u (by omega) (by omega) (hT.below hb))
 have hpn := prefE_none hE
 rw [hm] at hwe hpn
 have hnm : (i : Int) + (n : Int) = (m : Int) := by omega
 obtain ⟨p, hp⟩ : ∃ p, List.take (m - i) (List.drop i l) = p := ⟨_, rfl⟩
 have hcp : cutF l i m = p := hp
 have hpl : p.length <= 4194304 := by rw [<- hp]; simp; omega
 obtain ⟨po, hpo⟩ : ∃ po, prefOk p = po := ⟨_, rfl⟩
 obtain ⟨pb, hpb⟩ : ∃ pb, decide (m < l.length /\ l.getD m 0 = 58) = pb := ⟨_, rfl⟩
 rw [hcp, hpo, hpb] at hpn
 have PR : Hid (po = false -> ∀ u, Below w.heap.size w u -> Calls Tryz.prog 107 #[.string (B p)] u fun e w' => e = .returned (.int .i64 62) /\ w' = u) := hid (fun h u hb => by have := prefix_l p u (by omega) (hT.below hb); rw [prefix_num, hpo, h] at this; exact this)
 have HQ : Hid (∀ u, Calls Tryz.prog 73 #[.string (B (List.drop m l)), .string { data := #[58] }] u fun e w' => e = .returned (.bool pb) /\ w' = u) := hid (fun u => by
  have := Tryz.strings_HasPrefix (B (List.drop m l)) { data := #[58] } u
  rw [show (B (List.drop m l)).data.toList = List.drop m l from B_toList _, show ({ data := #[58] } : ByteArray).data.toList = [58] from rfl, has_one, hpb] at this
  exact this)
 have tk : List.take (l.length - m) (List.drop m l) = List.drop m l := List.take_of_length_le (by simp)
 have WN : IntKind.i64.wrap ((i : Int) + (n : Int)) = (m : Int) := by rw [hnm]; exact IntWalk.i64_in _ (by omega)
 have q0 : (i : Int) <= (m : Int) := by omega
 have q1 : (0 : Int) <= (m : Int) := by omega
 have q2 : (m : Int) <= (l.length : Int) := by omega
 obtain ⟨m2, hm2⟩ : ∃ m2, wordE l false i = m2 := ⟨_, rfl⟩
 obtain ⟨n2, hn2⟩ : ∃ n2, m2 - i = n2 := ⟨_, rfl⟩
 have hwe2 := wordE_bound l false l.length i (by omega) (by omega)
 have WD2 := hid (fun (u : World) (hb : Below w.heap.size w u) => hn2 ▸ hm2 ▸ lexWord_l l i false u (by omega) (by omega) (hT.below hb))
 rw [hm2] at hwe2
 have hnm2 : (i : Int) + (n2 : Int) = (m2 : Int) := by omega
 have WN2 : IntKind.i64.wrap ((i : Int) + (n2 : Int)) = (m2 : Int) := by rw [hnm2]; exact IntWalk.i64_in _ (by omega)
 have v0 : (i : Int) <= (m2 : Int) := by omega
 have v1 : (0 : Int) <= (m2 : Int) := by omega
 have v2 : (m2 : Int) <= (l.length : Int) := by omega
 obtain ⟨run, hrun⟩ : ∃ run, List.take (m2 - i) (List.drop i l) = run := ⟨_, rfl⟩
 have hrl : run.length <= 4194304 := by rw [<- hrun]; simp; omega
 have HI : Hid (nameG l i = if lowL run = prefixW \/ lowL run = baseW \/ lowL run = graphW then .inl ⟨7, greatL run, [], [], (i : Nat), (m2 : Nat)⟩
  else if run = [97] \/ run = [116, 114, 117, 101] \/ run = [102, 97, 108, 115, 101] then .inl ⟨7, run, [], [], (i : Nat), (m2 : Nat)⟩ else .inr (i, 100)) := hid (by
  unfold nameG; rw [hE]; show wordG l i = _; unfold wordG; rw [hm2, show cutF l i m2 = run from hrun])
 have LW := hid (fun (u : World) => lower_l run u (by unfold maxLen; omega))
 have HG := hid (fun (x : List UInt8) (h : lowL run = x) => great_of_low h)
 have HNW : Hid (run = [97] \/ run = [116, 114, 117, 101] \/ run = [102, 97, 108, 115, 101] -> ¬ (lowL run = prefixW \/ lowL run = baseW \/ lowL run = graphW)) := hid (by rintro (h | h | h) <;> rw [h] <;> decide)
 obtain ⟨lr, hlr⟩ : ∃ lr, lowL run = lr := ⟨_, rfl⟩
 rw [hlr] at HI LW HG HNW
 have L1 : Hid (∀ u, Calls Tryz.prog 101 #[.string { data := #[80, 82, 69, 70, 73, 88] }] u fun e w' => e = .returned (.string { data := #[112, 114, 101, 102, 105, 120] }) /\ Below u.heap.size u w') := hid (fun u => lower_l [80, 82, 69, 70, 73, 88] u (by decide))
 have L2 : Hid (∀ u, Calls Tryz.prog 101 #[.string { data := #[66, 65, 83, 69] }] u fun e w' => e = .returned (.string { data := #[98, 97, 115, 101] }) /\ Below u.heap.size u w') := hid (fun u => lower_l [66, 65, 83, 69] u (by decide))
 have L3 : Hid (∀ u, Calls Tryz.prog 101 #[.string { data := #[71, 82, 65, 80, 72] }] u fun e w' => e = .returned (.string { data := #[103, 114, 97, 112, 104] }) /\ Below u.heap.size u w') := hid (fun u => lower_l [71, 82, 65, 80, 72] u (by decide))
 have HFIN := hid (show (n2 : Int) = (m2 : Int) - (i : Int) by omega)
 clear hE hn hm hcp hpl hT hn2 hm2 hnm hnm2 hpo hpb hrl hlr
 obtain ⟨W, hW⟩ : ∃ W, (w.alloc (.cells #[.int .i64 0, .string ⟨#[]⟩, .string ⟨#[]⟩, .string ⟨#[]⟩, .int .i64 0, .int .i64 0] 50)).alloc (.cells #[.int .i64 0, .int .i64 0] 111) = W := ⟨_, rfl⟩
 have HB0 : Hid (Below w.heap.size w W) := hid (by rw [<- hW]; exact ((Below.refl _ _).alloc (Nat.le_refl _) _).alloc (by simp) _)
 have HK : Hid (TkAt W w.heap.size) := hid (by rw [<- hW]; exact tkAt_of (tk_new w).1 (tk_new w).2)
 have HX := hid (h.below HB0.out)
 have hn0 : ¬ b = w.heap.size := by have := h.lt; omega
 have hn1 : ¬ b = w.heap.size + 1 := by have := h.lt; omega
 have k0 : (0 : Int) <= (i : Int) := by omega
 have k1 : (i : Int) <= (l.length : Int) := by omega
 obtain ⟨x0, x1, x2, x3, f0, f1, f2, f3⟩ := RowAt.four HX.out
 have hbl := HX.out.lt
 obtain ⟨a0, a1, a2, a3, a4, a5, p0, p1, p2, p3, p4, p5, d0, d1, e0, e1, hlt⟩ := HK.out
 have hlt0 := Nat.lt_of_succ_lt hlt
 go_enter Tryz.func74, Tryz.ntmps74
 go_wp2_with fail
 go_cut [4] from 13 to 21 (fun x4 wx => x4 = .int .i64 (n : Int) /\ Hid (LexAt wx b l bad i ev) /\ Hid (TkAt wx w.heap.size) /\ Hid (Below w.heap.size w wx))
 case first =>
  go_region_with (go_at_call 106; (with_reducible refine (WD.out _ ?_).mono ?_); (first | (with_reducible exact HB0.out) | exact below_drewN_h HB0.out _ | exact below_same HB0.out (Below.refl _ _)); rintro e w3 ⟨rfl, hb⟩; replace HX := hid (@LexAt.below _ _ b l bad i ev (by exact HX.out) hb); replace HK := hid (@TkAt.below _ _ _ (by exact TkAt.same HK.out) hb); replace HB0 := hid (below_same HB0.out hb); clear x0 x1 x2 x3 f0 f1 f2 f3 hbl a0 a1 a2 a3 a4 a5 p0 p1 p2 p3 p4 p5 d0 d1 e0 e1 hlt hlt0 hb; obtain ⟨x0, x1, x2, x3, f0, f1, f2, f3⟩ := RowAt.four HX.out; have hbl := HX.out.lt; obtain ⟨a0, a1, a2, a3, a4, a5, p0, p1, p2, p3, p4, p5, d0, d1, e0, e1, hlt⟩ := HK.out; have hlt0 := Nat.lt_of_succ_lt hlt)
  all_goals (go_wp2_with fail; go_meet; exact ⟨rfl, HX, HK, HB0⟩)
 case rest =>
  obtain ⟨rfl, HX2, HK2, HB2⟩ := hcut
  obtain ⟨W0, hW0⟩ : ∃ W0 : World, W0 = wc := ⟨_, rfl⟩
  subst hW0
  clear HX HK HB0 x0 x1 x2 x3 f0 f1 f2 f3 hbl a0 a1 a2 a3 a4 a5 p0 p1 p2 p3 p4 p5 d0 d1 e0 e1 hlt hlt0
  have HX := HX2
  have HK := HK2
  have HB0 := HB2
  clear HX2 HK2 HB2
  obtain ⟨x0, x1, x2, x3, f0, f1, f2, f3⟩ := RowAt.four HX.out
  have hbl := HX.out.lt
  obtain ⟨a0, a1, a2, a3, a4, a5, p0, p1, p2, p3, p4, p5, d0, d1, e0, e1, hlt⟩ := HK.out
  have hlt0 := Nat.lt_of_succ_lt hlt
  go_wp2_with fail
  go_quiet (fail)
  go_wp2_with fail
  go_cut [53] from 37 to 53 (fun x53 wx => x53 = .bool false /\ Hid (LexAt wx b l bad i ev) /\ Hid (TkAt wx w.heap.size) /\ Hid (Below w.heap.size w wx))
  case first =>
   cases pb
   case false =>
    go_quiet ((go_at_call 73; exact quiet_same2 (HQ.out _)))
    go_wp2_with fail
    go_meet
    exact ⟨rfl, HX, hid (by first | exact HK.out.drewN _ | exact (HK.out.drewN _).drewN _), hid (by first | exact below_drewN_h HB0.out _ | exact below_drewN_h (below_drewN_h HB0.out _) _)⟩
   case true =>
    cases po
    case true => exact absurd hpn (by decide)
    case false =>
     go_quiet ((first | (go_at_call 73; exact quiet_same2 (HQ.out _)) | (go_at_call 107; exact quiet_same2 (PR.out rfl _ (by first | (with_reducible exact HB0.out) | exact below_drewN_h HB0.out _ | exact below_same HB0.out (Below.refl _ _))))))
     go_wp2_with fail
     go_meet
     exact ⟨rfl, HX, hid (by first | exact HK.out.drewN _ | exact (HK.out.drewN _).drewN _), hid (by first | exact below_drewN_h HB0.out _ | exact below_drewN_h (below_drewN_h HB0.out _) _)⟩
  case rest =>
   obtain ⟨rfl, HX2, HK2, HB2⟩ := hcut
   obtain ⟨W0, hW0⟩ : ∃ W0 : World, W0 = wc := ⟨_, rfl⟩
   subst hW0
   clear HX HK HB0 x0 x1 x2 x3 f0 f1 f2 f3 hbl a0 a1 a2 a3 a4 a5 p0 p1 p2 p3 p4 p5 d0 d1 e0 e1 hlt hlt0
   have HX := HX2
   have HK := HK2
   have HB0 := HB2
   clear HX2 HK2 HB2
   obtain ⟨x0, x1, x2, x3, f0, f1, f2, f3⟩ := RowAt.four HX.out
   have hbl := HX.out.lt
   obtain ⟨a0, a1, a2, a3, a4, a5, p0, p1, p2, p3, p4, p5, d0, d1, e0, e1, hlt⟩ := HK.out
   have hlt0 := Nat.lt_of_succ_lt hlt
   clear HQ PR hpn tk WN q0 q1 q2 hp
   go_wp2_with fail
   go_cut [4] from 88 to 96 (fun x4 wx => x4 = .int .i64 (n2 : Int) /\ Hid (LexAt wx b l bad i ev) /\ Hid (TkAt wx w.heap.size) /\ Hid (Below w.heap.size w wx))
   case first =>
    go_region_with (go_at_call 106; (with_reducible refine (WD2.out _ ?_).mono ?_); (first | (with_reducible exact HB0.out) | exact below_drewN_h HB0.out _ | exact below_same HB0.out (Below.refl _ _)); rintro e w3 ⟨rfl, hb⟩; replace HX := hid (@LexAt.below _ _ b l bad i ev (by exact HX.out) hb); replace HK := hid (@TkAt.below _ _ _ (by exact TkAt.same HK.out) hb); replace HB0 := hid (below_same HB0.out hb); clear x0 x1 x2 x3 f0 f1 f2 f3 hbl a0 a1 a2 a3 a4 a5 p0 p1 p2 p3 p4 p5 d0 d1 e0 e1 hlt hlt0 hb; obtain ⟨x0, x1, x2, x3, f0, f1, f2, f3⟩ := RowAt.four HX.out; have hbl := HX.out.lt; obtain ⟨a0, a1, a2, a3, a4, a5, p0, p1, p2, p3, p4, p5, d0, d1, e0, e1, hlt⟩ := HK.out; have hlt0 := Nat.lt_of_succ_lt hlt)
    all_goals (go_wp2_with fail; go_meet; exact ⟨rfl, HX, HK, HB0⟩)
   case rest =>
    obtain ⟨rfl, HX2, HK2, HB2⟩ := hcut
    obtain ⟨W0, hW0⟩ : ∃ W0 : World, W0 = wc := ⟨_, rfl⟩
    subst hW0
    clear HX HK HB0 x0 x1 x2 x3 f0 f1 f2 f3 hbl a0 a1 a2 a3 a4 a5 p0 p1 p2 p3 p4 p5 d0 d1 e0 e1 hlt hlt0
    have HX := HX2
    have HK := HK2
    have HB0 := HB2
    clear HX2 HK2 HB2
    obtain ⟨x0, x1, x2, x3, f0, f1, f2, f3⟩ := RowAt.four HX.out
    have hbl := HX.out.lt
    obtain ⟨a0, a1, a2, a3, a4, a5, p0, p1, p2, p3, p4, p5, d0, d1, e0, e1, hlt⟩ := HK.out
    have hlt0 := Nat.lt_of_succ_lt hlt
    go_wp2_with fail
    go_quiet (fail)
    by_cases h1 : run = [97]
    ·have HI2 : Hid (nameG l i = .inl ⟨7, run, [], [], (i : Nat), (m2 : Nat)⟩) := hid (by rw [HI.out, if_neg (HNW.out (.inl h1)), if_pos (.inl h1)])
     have HR := hid h1
     clear HI HNW
     go_wp2_with fail
     exact tok_done rfl (HK.out.drewN _) (below_drewN_h HB0.out _) rfl rfl (by rw [HI2.out]; exact tokRet_of (t := ⟨7, run, [], [], (i : Nat), (m2 : Nat)⟩) (by rw [HR.out]) rfl rfl HFIN.out)
    have s1 : (run == [97]) = false := beq_eq_false_iff_ne.2 h1
    by_cases h2 : run = [116, 114, 117, 101]
    ·have HI2 : Hid (nameG l i = .inl ⟨7, run, [], [], (i : Nat), (m2 : Nat)⟩) := hid (by rw [HI.out, if_neg (HNW.out (.inr (.inl h2))), if_pos (.inr (.inl h2))])
     clear h1
     have HR := hid h2
     clear HI HNW
     go_wp2_with fail
     exact tok_done rfl (HK.out.drewN _) (below_drewN_h HB0.out _) rfl rfl (by rw [HI2.out]; exact tokRet_of (t := ⟨7, run, [], [], (i : Nat), (m2 : Nat)⟩) (by rw [HR.out]) rfl rfl HFIN.out)
    have s2 : (run == [116, 114, 117, 101]) = false := beq_eq_false_iff_ne.2 h2
    by_cases h3 : run = [102, 97, 108, 115, 101]
    ·have HI2 : Hid (nameG l i = .inl ⟨7, run, [], [], (i : Nat), (m2 : Nat)⟩) := hid (by rw [HI.out, if_neg (HNW.out (.inr (.inr h3))), if_pos (.inr (.inr h3))])
     clear h1
     clear h2
     have HR := hid h3
     clear HI HNW
     go_wp2_with fail
     exact tok_done rfl (HK.out.drewN _) (below_drewN_h HB0.out _) rfl rfl (by rw [HI2.out]; exact tokRet_of (t := ⟨7, run, [], [], (i : Nat), (m2 : Nat)⟩) (by rw [HR.out]) rfl rfl HFIN.out)
    have s3 : (run == [102, 97, 108, 115, 101]) = false := beq_eq_false_iff_ne.2 h3
    have HI2 : Hid (nameG l i = if lr = prefixW \/ lr = baseW \/ lr = graphW then .inl ⟨7, greatL run, [], [], (i : Nat), (m2 : Nat)⟩ else .inr (i, 100)) := hid (by rw [HI.out, if_neg (show ¬ (run = [97] \/ run = [116, 114, 117, 101] \/ run = [102, 97, 108, 115, 101]) by rintro (h | h | h); exact h1 h; exact h2 h; exact h3 h)])
    clear HI HNW h1 h2 h3
    go_wp2_with fail
    go_loopw [122] (fun z wr => ((z = .int .i64 0) \/ (z = .int .i64 1 /\ Hid (lr ≠ prefixW)) \/ (z = .int .i64 2 /\ Hid (lr ≠ prefixW /\ lr ≠ baseW)) \/ (z = .int .i64 3 /\ Hid (lr ≠ prefixW /\ lr ≠ baseW /\ lr ≠ graphW))) /\ Hid (LexAt wr b l bad i ev) /\ Hid (TkAt wr w.heap.size) /\ Hid (Below w.heap.size w wr)) (fun z _ => 3 - (intOf z).toNat)
    case atStart => exact ⟨.inl rfl, hid (HX.out.drewN _), hid (HK.out.drewN _), hid (below_drewN_h HB0.out _)⟩
    case round =>
     obtain ⟨hz, HX2, HK2, HB2⟩ := hrel
     obtain ⟨W1, hW1⟩ : ∃ W1 : World, W1 = wr := ⟨_, rfl⟩
     subst hW1
     clear HX HK HB0 x0 x1 x2 x3 f0 f1 f2 f3 hbl a0 a1 a2 a3 a4 a5 p0 p1 p2 p3 p4 p5 d0 d1 e0 e1 hlt hlt0
     have HX := HX2
     have HK := HK2
     have HB0 := HB2
     clear HX2 HK2 HB2
     obtain ⟨x0, x1, x2, x3, f0, f1, f2, f3⟩ := RowAt.four HX.out
     have hbl := HX.out.lt
     obtain ⟨a0, a1, a2, a3, a4, a5, p0, p1, p2, p3, p4, p5, d0, d1, e0, e1, hlt⟩ := HK.out
     have hlt0 := Nat.lt_of_succ_lt hlt
     rcases hz with rfl | ⟨rfl, HN⟩ | ⟨rfl, HN⟩ | ⟨rfl, HN⟩
     ·by_cases h : lr = prefixW
      ·have HI3 : Hid (nameG l i = .inl ⟨7, [80, 82, 69, 70, 73, 88], [], [], (i : Nat), (m2 : Nat)⟩) := hid (by rw [HI2.out, if_pos (.inl h), HG.out _ h]; rfl)
       have s4 : lr = [112, 114, 101, 102, 105, 120] := h
       clear h HI2 HG
       go_wp2_with (first | (go_at_call 101; (with_reducible refine (LW.out _).mono ?_); rintro e w3 ⟨rfl, hb⟩; replace HX := hid (@LexAt.below _ _ b l bad i ev (by exact HX.out) hb); replace HK := hid (@TkAt.below _ _ _ (by exact TkAt.same HK.out) hb); replace HB0 := hid (below_same HB0.out hb); clear x0 x1 x2 x3 f0 f1 f2 f3 hbl a0 a1 a2 a3 a4 a5 p0 p1 p2 p3 p4 p5 d0 d1 e0 e1 hlt hlt0 hb; obtain ⟨x0, x1, x2, x3, f0, f1, f2, f3⟩ := RowAt.four HX.out; have hbl := HX.out.lt; obtain ⟨a0, a1, a2, a3, a4, a5, p0, p1, p2, p3, p4, p5, d0, d1, e0, e1, hlt⟩ := HK.out; have hlt0 := Nat.lt_of_succ_lt hlt) | (go_at_call 101; (with_reducible refine (L1.out _).mono ?_); rintro e w3 ⟨rfl, hb⟩; replace HX := hid (@LexAt.below _ _ b l bad i ev (by exact HX.out) hb); replace HK := hid (@TkAt.below _ _ _ (by exact TkAt.same HK.out) hb); replace HB0 := hid (below_same HB0.out hb); clear x0 x1 x2 x3 f0 f1 f2 f3 hbl a0 a1 a2 a3 a4 a5 p0 p1 p2 p3 p4 p5 d0 d1 e0 e1 hlt hlt0 hb; obtain ⟨x0, x1, x2, x3, f0, f1, f2, f3⟩ := RowAt.four HX.out; have hbl := HX.out.lt; obtain ⟨a0, a1, a2, a3, a4, a5, p0, p1, p2, p3, p4, p5, d0, d1, e0, e1, hlt⟩ := HK.out; have hlt0 := Nat.lt_of_succ_lt hlt))
       exact tok_done rfl HK.out HB0.out rfl rfl (by rw [HI3.out]; exact tokRet_of (t := ⟨7, [80, 82, 69, 70, 73, 88], [], [], (i : Nat), (m2 : Nat)⟩) rfl rfl rfl HFIN.out)
      ·have s4 : (lr == [112, 114, 101, 102, 105, 120]) = false := beq_eq_false_iff_ne.2 h
       have HN2 : Hid (lr ≠ prefixW) := hid h
       clear h
       go_wp2_with (first | (go_at_call 101; (with_reducible refine (LW.out _).mono ?_); rintro e w3 ⟨rfl, hb⟩; replace HX := hid (@LexAt.below _ _ b l bad i ev (by exact HX.out) hb); replace HK := hid (@TkAt.below _ _ _ (by exact TkAt.same HK.out) hb); replace HB0 := hid (below_same HB0.out hb); clear x0 x1 x2 x3 f0 f1 f2 f3 hbl a0 a1 a2 a3 a4 a5 p0 p1 p2 p3 p4 p5 d0 d1 e0 e1 hlt hlt0 hb; obtain ⟨x0, x1, x2, x3, f0, f1, f2, f3⟩ := RowAt.four HX.out; have hbl := HX.out.lt; obtain ⟨a0, a1, a2, a3, a4, a5, p0, p1, p2, p3, p4, p5, d0, d1, e0, e1, hlt⟩ := HK.out; have hlt0 := Nat.lt_of_succ_lt hlt) | (go_at_call 101; (with_reducible refine (L1.out _).mono ?_); rintro e w3 ⟨rfl, hb⟩; replace HX := hid (@LexAt.below _ _ b l bad i ev (by exact HX.out) hb); replace HK := hid (@TkAt.below _ _ _ (by exact TkAt.same HK.out) hb); replace HB0 := hid (below_same HB0.out hb); clear x0 x1 x2 x3 f0 f1 f2 f3 hbl a0 a1 a2 a3 a4 a5 p0 p1 p2 p3 p4 p5 d0 d1 e0 e1 hlt hlt0 hb; obtain ⟨x0, x1, x2, x3, f0, f1, f2, f3⟩ := RowAt.four HX.out; have hbl := HX.out.lt; obtain ⟨a0, a1, a2, a3, a4, a5, p0, p1, p2, p3, p4, p5, d0, d1, e0, e1, hlt⟩ := HK.out; have hlt0 := Nat.lt_of_succ_lt hlt))
       go_roundw
       case rel => exact ⟨.inr (.inl ⟨rfl, HN2⟩), HX, HK, HB0⟩
       case measure => simp [intOf]
     ·by_cases h : lr = baseW
      ·have HI3 : Hid (nameG l i = .inl ⟨7, [66, 65, 83, 69], [], [], (i : Nat), (m2 : Nat)⟩) := hid (by rw [HI2.out, if_pos (.inr (.inl h)), HG.out _ h]; rfl)
       have s4 : lr = [98, 97, 115, 101] := h
       clear h HI2 HG
       go_wp2_with (first | (go_at_call 101; (with_reducible refine (LW.out _).mono ?_); rintro e w3 ⟨rfl, hb⟩; replace HX := hid (@LexAt.below _ _ b l bad i ev (by exact HX.out) hb); replace HK := hid (@TkAt.below _ _ _ (by exact TkAt.same HK.out) hb); replace HB0 := hid (below_same HB0.out hb); clear x0 x1 x2 x3 f0 f1 f2 f3 hbl a0 a1 a2 a3 a4 a5 p0 p1 p2 p3 p4 p5 d0 d1 e0 e1 hlt hlt0 hb; obtain ⟨x0, x1, x2, x3, f0, f1, f2, f3⟩ := RowAt.four HX.out; have hbl := HX.out.lt; obtain ⟨a0, a1, a2, a3, a4, a5, p0, p1, p2, p3, p4, p5, d0, d1, e0, e1, hlt⟩ := HK.out; have hlt0 := Nat.lt_of_succ_lt hlt) | (go_at_call 101; (with_reducible refine (L2.out _).mono ?_); rintro e w3 ⟨rfl, hb⟩; replace HX := hid (@LexAt.below _ _ b l bad i ev (by exact HX.out) hb); replace HK := hid (@TkAt.below _ _ _ (by exact TkAt.same HK.out) hb); replace HB0 := hid (below_same HB0.out hb); clear x0 x1 x2 x3 f0 f1 f2 f3 hbl a0 a1 a2 a3 a4 a5 p0 p1 p2 p3 p4 p5 d0 d1 e0 e1 hlt hlt0 hb; obtain ⟨x0, x1, x2, x3, f0, f1, f2, f3⟩ := RowAt.four HX.out; have hbl := HX.out.lt; obtain ⟨a0, a1, a2, a3, a4, a5, p0, p1, p2, p3, p4, p5, d0, d1, e0, e1, hlt⟩ := HK.out; have hlt0 := Nat.lt_of_succ_lt hlt))
       exact tok_done rfl HK.out HB0.out rfl rfl (by rw [HI3.out]; exact tokRet_of (t := ⟨7, [66, 65, 83, 69], [], [], (i : Nat), (m2 : Nat)⟩) rfl rfl rfl HFIN.out)
      ·have s4 : (lr == [98, 97, 115, 101]) = false := beq_eq_false_iff_ne.2 h
       have HN2 : Hid (lr ≠ prefixW /\ lr ≠ baseW) := hid ⟨HN.out, h⟩
       clear h
       go_wp2_with (first | (go_at_call 101; (with_reducible refine (LW.out _).mono ?_); rintro e w3 ⟨rfl, hb⟩; replace HX := hid (@LexAt.below _ _ b l bad i ev (by exact HX.out) hb); replace HK := hid (@TkAt.below _ _ _ (by exact TkAt.same HK.out) hb); replace HB0 := hid (below_same HB0.out hb); clear x0 x1 x2 x3 f0 f1 f2 f3 hbl a0 a1 a2 a3 a4 a5 p0 p1 p2 p3 p4 p5 d0 d1 e0 e1 hlt hlt0 hb; obtain ⟨x0, x1, x2, x3, f0, f1, f2, f3⟩ := RowAt.four HX.out; have hbl := HX.out.lt; obtain ⟨a0, a1, a2, a3, a4, a5, p0, p1, p2, p3, p4, p5, d0, d1, e0, e1, hlt⟩ := HK.out; have hlt0 := Nat.lt_of_succ_lt hlt) | (go_at_call 101; (with_reducible refine (L2.out _).mono ?_); rintro e w3 ⟨rfl, hb⟩; replace HX := hid (@LexAt.below _ _ b l bad i ev (by exact HX.out) hb); replace HK := hid (@TkAt.below _ _ _ (by exact TkAt.same HK.out) hb); replace HB0 := hid (below_same HB0.out hb); clear x0 x1 x2 x3 f0 f1 f2 f3 hbl a0 a1 a2 a3 a4 a5 p0 p1 p2 p3 p4 p5 d0 d1 e0 e1 hlt hlt0 hb; obtain ⟨x0, x1, x2, x3, f0, f1, f2, f3⟩ := RowAt.four HX.out; have hbl := HX.out.lt; obtain ⟨a0, a1, a2, a3, a4, a5, p0, p1, p2, p3, p4, p5, d0, d1, e0, e1, hlt⟩ := HK.out; have hlt0 := Nat.lt_of_succ_lt hlt))
       go_roundw
       case rel => exact ⟨.inr (.inr (.inl ⟨rfl, HN2⟩)), HX, HK, HB0⟩
       case measure => simp [intOf]
     ·by_cases h : lr = graphW
      ·have HI3 : Hid (nameG l i = .inl ⟨7, [71, 82, 65, 80, 72], [], [], (i : Nat), (m2 : Nat)⟩) := hid (by rw [HI2.out, if_pos (.inr (.inr h)), HG.out _ h]; rfl)
       have s4 : lr = [103, 114, 97, 112, 104] := h
       clear h HI2 HG
       go_wp2_with (first | (go_at_call 101; (with_reducible refine (LW.out _).mono ?_); rintro e w3 ⟨rfl, hb⟩; replace HX := hid (@LexAt.below _ _ b l bad i ev (by exact HX.out) hb); replace HK := hid (@TkAt.below _ _ _ (by exact TkAt.same HK.out) hb); replace HB0 := hid (below_same HB0.out hb); clear x0 x1 x2 x3 f0 f1 f2 f3 hbl a0 a1 a2 a3 a4 a5 p0 p1 p2 p3 p4 p5 d0 d1 e0 e1 hlt hlt0 hb; obtain ⟨x0, x1, x2, x3, f0, f1, f2, f3⟩ := RowAt.four HX.out; have hbl := HX.out.lt; obtain ⟨a0, a1, a2, a3, a4, a5, p0, p1, p2, p3, p4, p5, d0, d1, e0, e1, hlt⟩ := HK.out; have hlt0 := Nat.lt_of_succ_lt hlt) | (go_at_call 101; (with_reducible refine (L3.out _).mono ?_); rintro e w3 ⟨rfl, hb⟩; replace HX := hid (@LexAt.below _ _ b l bad i ev (by exact HX.out) hb); replace HK := hid (@TkAt.below _ _ _ (by exact TkAt.same HK.out) hb); replace HB0 := hid (below_same HB0.out hb); clear x0 x1 x2 x3 f0 f1 f2 f3 hbl a0 a1 a2 a3 a4 a5 p0 p1 p2 p3 p4 p5 d0 d1 e0 e1 hlt hlt0 hb; obtain ⟨x0, x1, x2, x3, f0, f1, f2, f3⟩ := RowAt.four HX.out; have hbl := HX.out.lt; obtain ⟨a0, a1, a2, a3, a4, a5, p0, p1, p2, p3, p4, p5, d0, d1, e0, e1, hlt⟩ := HK.out; have hlt0 := Nat.lt_of_succ_lt hlt))
       exact tok_done rfl HK.out HB0.out rfl rfl (by rw [HI3.out]; exact tokRet_of (t := ⟨7, [71, 82, 65, 80, 72], [], [], (i : Nat), (m2 : Nat)⟩) rfl rfl rfl HFIN.out)
      ·have s4 : (lr == [103, 114, 97, 112, 104]) = false := beq_eq_false_iff_ne.2 h
       have HN2 : Hid (lr ≠ prefixW /\ lr ≠ baseW /\ lr ≠ graphW) := hid ⟨HN.out.1, HN.out.2, h⟩
       clear h
       go_wp2_with (first | (go_at_call 101; (with_reducible refine (LW.out _).mono ?_); rintro e w3 ⟨rfl, hb⟩; replace HX := hid (@LexAt.below _ _ b l bad i ev (by exact HX.out) hb); replace HK := hid (@TkAt.below _ _ _ (by exact TkAt.same HK.out) hb); replace HB0 := hid (below_same HB0.out hb); clear x0 x1 x2 x3 f0 f1 f2 f3 hbl a0 a1 a2 a3 a4 a5 p0 p1 p2 p3 p4 p5 d0 d1 e0 e1 hlt hlt0 hb; obtain ⟨x0, x1, x2, x3, f0, f1, f2, f3⟩ := RowAt.four HX.out; have hbl := HX.out.lt; obtain ⟨a0, a1, a2, a3, a4, a5, p0, p1, p2, p3, p4, p5, d0, d1, e0, e1, hlt⟩ := HK.out; have hlt0 := Nat.lt_of_succ_lt hlt) | (go_at_call 101; (with_reducible refine (L3.out _).mono ?_); rintro e w3 ⟨rfl, hb⟩; replace HX := hid (@LexAt.below _ _ b l bad i ev (by exact HX.out) hb); replace HK := hid (@TkAt.below _ _ _ (by exact TkAt.same HK.out) hb); replace HB0 := hid (below_same HB0.out hb); clear x0 x1 x2 x3 f0 f1 f2 f3 hbl a0 a1 a2 a3 a4 a5 p0 p1 p2 p3 p4 p5 d0 d1 e0 e1 hlt hlt0 hb; obtain ⟨x0, x1, x2, x3, f0, f1, f2, f3⟩ := RowAt.four HX.out; have hbl := HX.out.lt; obtain ⟨a0, a1, a2, a3, a4, a5, p0, p1, p2, p3, p4, p5, d0, d1, e0, e1, hlt⟩ := HK.out; have hlt0 := Nat.lt_of_succ_lt hlt))
       go_roundw
       case rel => exact ⟨.inr (.inr (.inr ⟨rfl, HN2⟩)), HX, HK, HB0⟩
       case measure => simp [intOf]
     ·have HI3 : Hid (nameG l i = .inr (i, 100)) := hid (by rw [HI2.out, if_neg (by rintro (h | h | h); exact HN.out.1 h; exact HN.out.2.1 h; exact HN.out.2.2 h)])
      clear HI2 HG LW L1 L2 L3
      go_wp2_with fail
      go_region
      all_goals (go_wp2_with fail)
      all_goals exact tok_done_d (V := W1) rfl HK.out HB0.out rfl rfl (by rw [HI3.out]; exact ⟨_, _, _, _, _, _, rfl⟩)
theorem lexNamed_l (l : List UInt8) (bad : Int) (i : Nat) (ev : Value) (b : Nat) (w : World) (h : LexAt w b l bad i ev) (hi : i < l.length) (hl : l.length <= 4194304) (hT : TabAt w) :
  Calls Tryz.prog 74 #[.pointer (some ⟨b, 0, none⟩)] w fun e w' => TokRet e i (nameG l i) /\ Below w.heap.size w w' := by
 cases hE : prefE l i with
 | none => exact lexNamed_2 l bad i ev b w h hi hl hT hE
 | some e => exact lexNamed_1 l bad i ev b w h hi hl hT (by rw [hE, (prefE_some hE).1])
end Go.Proofs.YtdhmpakhdhdebaaGreatDoor
