/-
  The reference's Next: the scalar at a place, guessed and held against what would be written: contract. By an AI agent.
-/
import Derived.Test.YtfjcbodkjjmagaaDoorUtf
import Derived.Deep.QuietTactic
import Derived.BigQuiet
import Derived.Deep.RegionWith
namespace Go.Proofs.YtfjcbodkjjmagaaDoor
open Go.RowKit
set_option maxRecDepth 100000

theorem refScalar_any (r : Int) (w : World) : Calls Tryd.prog 118 #[.int .i64 r] w fun e w' => e = .returned (.bool (scal r)) ∧ w' = w := by
  have hx : scal r = true ∧ (0 ≤ r ∧ r ≤ 1114111 ∧ (r < 55296 ∨ 57343 < r)) ∨ scal r = false ∧ ¬ (0 ≤ r ∧ r ≤ 1114111 ∧ (r < 55296 ∨ 57343 < r)) := by
    cases hs : scal r with
    | false => exact .inr ⟨rfl, fun h => by rw [scal_mk h] at hs; cases hs⟩
    | true => exact .inl ⟨rfl, scal_nonneg hs⟩
  obtain ⟨q, hq⟩ : ∃ q, scal r = q := ⟨_, rfl⟩
  rw [hq] at hx ⊢
  clear hq
  by_cases h1 : 0 ≤ r
  · by_cases h2 : r ≤ 1114111
    · by_cases h3 : r < 55296
      · obtain rfl : q = true := by rcases hx with h | h; exact h.1; omega
        clear hx
        go_enter Tryd.func118, Tryd.ntmps118
        go_wp2
        go_ret
        exact ⟨rfl, rfl⟩
      · by_cases h4 : 57343 < r
        · obtain rfl : q = true := by rcases hx with h | h; exact h.1; omega
          clear hx
          go_enter Tryd.func118, Tryd.ntmps118
          go_wp2
          go_ret
          exact ⟨rfl, rfl⟩
        · obtain rfl : q = false := by rcases hx with h | h; omega; exact h.1
          clear hx
          go_enter Tryd.func118, Tryd.ntmps118
          go_wp2
          go_ret
          exact ⟨rfl, rfl⟩
    · obtain rfl : q = false := by rcases hx with h | h; omega; exact h.1
      clear hx
      go_enter Tryd.func118, Tryd.ntmps118
      go_wp2
      go_ret
      exact ⟨rfl, rfl⟩
  · obtain rfl : q = false := by rcases hx with h | h; omega; exact h.1
    clear hx
    go_enter Tryd.func118, Tryd.ntmps118
    go_wp2
    go_ret
    exact ⟨rfl, rfl⟩

/-- what Bytes hands back: a new row of a scalar's bytes -/
def BytesOut (r : Int) (w : World) (e : Ending) (w' : World) : Prop := ∃ c, e = .returned (.slice (some ⟨w.heap.size, 0, none⟩) (bytesOf r).length c) ∧ At w' (some ⟨w.heap.size, 0, none⟩) ((bytesOf r).map (Value.int .u8)) ∧ Below w.heap.size w w'
theorem bytes_out {r : Int} {w : World} (t : TypeId) (L : List Int) (h : bytesOf r = L) : BytesOut r w (.returned (.slice (some ⟨w.heap.size, 0, none⟩) L.length L.length)) (w.alloc (.cells (L.map (Value.int .u8)).toArray t)) := by
  subst h
  refine ⟨_, rfl, fun j hj => ⟨w.heap.size, 0, rfl, ?_⟩, (Below.refl _ _).alloc (Nat.le_refl _) _⟩
  rw [Nat.zero_add, World.cell?_alloc_new]
  simp only [List.getElem?_toArray]
  exact List.getElem?_eq_getElem hj

theorem refBytes_any (r : Int) (w : World) (h0 : 0 ≤ r) (h1 : r ≤ 1114111) :
    Calls Tryd.prog 119 #[.int .i64 r] w fun e w' => BytesOut r w e w' := by
  by_cases a : r < 128
  · have HF := Lib.hid (bytesOf1 a)
    go_enter Tryd.func119, Tryd.ntmps119
    go_wp2
    go_ret
    exact bytes_out 5 [r] (by rw [HF.out, show r % 256 = r by omega])
  by_cases b : r < 2048
  · have HF := Lib.hid (bytesOf2 (by omega) b)
    go_enter Tryd.func119, Tryd.ntmps119
    go_wp2
    go_ret
    exact bytes_out 5 [192 + r / 64, 128 + r % 64] (by rw [HF.out, show (192 + r / 64) % 256 = 192 + r / 64 by omega, show (128 + r % 64) % 256 = 128 + r % 64 by omega])
  by_cases c : r < 65536
  · have HF := Lib.hid (bytesOf3 (by omega) c)
    go_enter Tryd.func119, Tryd.ntmps119
    go_wp2
    go_ret
    exact bytes_out 5 [224 + r / 4096, 128 + r / 64 % 64, 128 + r % 64] (by rw [HF.out, show (224 + r / 4096) % 256 = 224 + r / 4096 by omega, show (128 + r / 64 % 64) % 256 = 128 + r / 64 % 64 by omega, show (128 + r % 64) % 256 = 128 + r % 64 by omega])
  · have HF := Lib.hid (bytesOf4 (r := r) (by omega))
    go_enter Tryd.func119, Tryd.ntmps119
    go_wp2
    go_ret
    exact bytes_out 5 [240 + r / 262144, 128 + r / 4096 % 64, 128 + r / 64 % 64, 128 + r % 64] (by rw [HF.out, show (240 + r / 262144) % 256 = 240 + r / 262144 by omega, show (128 + r / 4096 % 64) % 256 = 128 + r / 4096 % 64 by omega, show (128 + r / 64 % 64) % 256 = 128 + r / 64 % 64 by omega, show (128 + r % 64) % 256 = 128 + r % 64 by omega])

def bytesU (r : Int) : List UInt8 := (bytesOf r).map fun x => UInt8.ofNat x.toNat
theorem bytesOf_mem (r : Int) : ∀ x ∈ bytesOf r, 0 ≤ x ∧ x < 256 := by
  intro x hx
  unfold bytesOf at hx
  split at hx
  · simp at hx; omega
  · split at hx
    · simp at hx; omega
    · split at hx
      · simp at hx; omega
      · simp at hx; omega
theorem bytesU_ints (r : Int) : ints (bytesU r) = bytesOf r := by
  unfold ints bytesU
  rw [List.map_map]
  conv => rhs; rw [← List.map_id (bytesOf r)]
  apply List.map_congr_left
  intro x hx
  have := bytesOf_mem r x hx
  simp
  omega
theorem ints_inj : ∀ {a b : List UInt8}, ints a = ints b → a = b
  | [], [], _ => rfl
  | [], _ :: _, h => by simp [ints] at h
  | _ :: _, [], h => by simp [ints] at h
  | x :: a, y :: b, h => by
    simp only [ints, List.map_cons, List.cons.injEq] at h
    rw [ints_inj (a := a) (b := b) h.2, UInt8.toNat_inj.1 (show x.toNat = y.toNat by omega)]
theorem bytesU_cells (r : Int) : (bytesOf r).map (Value.int .u8) = (bytesU r).map U8 := by
  rw [← bytesU_ints]
  simp [ints, U8]
theorem bytesU_length (r : Int) : (bytesU r).length = (bytesOf r).length := by simp [bytesU]
theorem guess_yes {b : List UInt8} {V : Int} (h : sumV b = V) (hs : scal V = true) (he : bytesU V = b) : guessV b = V := by
  unfold guessV
  rw [h, if_pos ⟨hs, by rw [← he, bytesU_ints]⟩]
theorem guess_no {b : List UInt8} {V : Int} (h : sumV b = V) (hs : ¬ (scal V = true ∧ bytesU V = b)) : guessV b = -1 := by
  unfold guessV
  rw [h, if_neg]
  rintro ⟨h1, h2⟩
  exact hs ⟨h1, ints_inj (by rw [bytesU_ints, h2])⟩

/-- the guessed scalar when k bytes are gone through -/
def sumTo (b : List UInt8) (k : Nat) : Int := match b with
  | [] => 0
  | c :: t => (t.take (k - 1)).foldl (fun r d => r * 64 + (d.toNat : Int) - 128) ((c.toNat : Int) - leadOf b.length)
theorem sumTo_all (b : List UInt8) : sumTo b b.length = sumV b := by
  cases b with
  | nil => rfl
  | cons c t => simp [sumTo, sumV]
theorem sumTo_succ (b : List UInt8) (k : Nat) (hk : 1 ≤ k) (h : k < b.length) : sumTo b (k + 1) = sumTo b k * 64 + (b[k].toNat : Int) - 128 := by
  match b, h with
  | c :: t, h =>
    simp only [sumTo]
    simp at h
    rw [show k + 1 - 1 = (k - 1) + 1 by omega, List.take_succ_eq_append_getElem (by omega), List.foldl_append]
    simp only [List.foldl_cons, List.foldl_nil]
    match k, hk with
    | j + 1, _ => simp
theorem sumTo_one (b : List UInt8) (h : 0 < b.length) : sumTo b 1 = (b[0].toNat : Int) - leadOf b.length := by
  match b, h with
  | c :: t, _ => simp [sumTo]
theorem leadOf_bound (n : Nat) : 0 ≤ leadOf n ∧ leadOf n ≤ 240 := by
  unfold leadOf
  repeat' split
  all_goals omega

theorem guess_below {w W W1 w2 : World} (h1 : Below w.heap.size w W) (h2 : Below W1.heap.size W1 w2) (hx : W1.heap = W.heap := by rfl) (ho : W1.os = W.os := by rfl) (ht : W1.tape = W.tape := by rfl) (hp : W1.output = W.output := by rfl) : Below w.heap.size w w2 := by
  have h3 : Below W1.heap.size W W1 := ⟨ho, ht, hp, by rw [hx]; exact Nat.le_refl _, fun k _ => by rw [hx]⟩
  exact (h1.trans (h3.mono (by rw [hx]; exact h1.size))).trans (h2.mono (by rw [hx]; exact h1.size))

set_option maxHeartbeats 1600000 in
theorem guess_l (b : List UInt8) (a : Option Addr) (cap : Nat) (w : World) (hb1 : 1 ≤ b.length) (hb4 : b.length ≤ 4) (h1 : At w a (b.map U8)) :
    Calls Tryd.prog 88 #[.slice a b.length cap] w fun e w' => e = .returned (.int .i64 (guessV b)) ∧ Below w.heap.size w w' := by
  obtain ⟨p, o, rfl⟩ := h1.place (by simp; omega)
  have SCAL := Lib.hid refScalar_any; have BYT := Lib.hid refBytes_any
  have hc0 : w.cell? ⟨p, o, none⟩ = some (.int .u8 (b[0].toNat : Int)) := by have := h1.get (j := 0) (by simp; omega); simpa [U8] using this
  have H1 := Lib.hid h1
  clear h1
  obtain ⟨n, hn⟩ : ∃ n, b.length = n := ⟨_, rfl⟩
  obtain ⟨L, hL⟩ : ∃ L, leadOf n = L := ⟨_, rfl⟩
  have hLb := leadOf_bound n
  rw [hL] at hLb
  obtain ⟨c0, hc⟩ : ∃ c, b[0] = c := ⟨_, rfl⟩
  have hc0l := c0.toNat_lt
  rw [hc] at hc0
  have hcell : ∀ wx : World, (wx.alloc (.cells #[.int .i64 0, .int .i64 0, .int .i64 192, .int .i64 224, .int .i64 240] 135)).cell? ⟨wx.heap.size, n, none⟩ = some (.int .i64 L) := by
    intro wx
    rw [World.cell?_alloc_new, ← hL]
    have : n = 1 ∨ n = 2 ∨ n = 3 ∨ n = 4 := by omega
    rcases this with rfl | rfl | rfl | rfl <;> rfl
  have HS : Hid (sumTo b 1 = (c0.toNat : Int) - L) := by
    exact Lib.hid (by rw [sumTo_one b (by omega), hc, hn, hL])
  rw [hn] at hb1 hb4 ⊢
  have HN := Lib.hid hn
  clear hn hL hc
  go_enter Tryd.func88, Tryd.ntmps88
  go_wp2_with fail
  have hcw := hcell w
  clear hcell
  have hp : p < w.heap.size := World.block_lt_of_cell? _ _ hc0
  have hc0' : ∀ o', (w.alloc o').cell? ⟨p, o, none⟩ = some (.int .u8 (c0.toNat : Int)) := fun o' => by rw [World.cell?_alloc_lt _ _ _ hp]; exact hc0
  go_quiet (fail)
  clear hcw
  go_wp2_with fail
  go_loop [4, 5] (fun r i => ∃ (k : Nat) (acc : Int), 1 ≤ k ∧ k ≤ n ∧ i = .int .i64 k ∧ r = .int .i64 acc ∧ (-100000000 ≤ acc ∧ acc ≤ 100000000 ∧ (k = 1 → -256 ≤ acc ∧ acc ≤ 256) ∧ (k = 2 → -17000 ≤ acc ∧ acc ≤ 17000) ∧ (k = 3 → -1100000 ≤ acc ∧ acc ≤ 1100000)) ∧ Hid (sumTo b k = acc)) (fun _ i => n - (intOf i).toNat)
  case atStart => exact ⟨1, (c0.toNat : Int) - L, Nat.le_refl _, hb1, rfl, rfl, by omega, HS⟩
  case round =>
    obtain ⟨k, acc, hk1, hkn, rfl, rfl, hacc, HT⟩ := hrel
    by_cases hlt : k < n
    · have hkl : k < b.length := by rw [HN.out]; exact hlt
      have hc := (H1.out.get (j := k) (by simp; exact hkl))
      rw [u8_map _ _ hkl] at hc
      have hbk : (b[k].toNat : Int) < 256 := by have := b[k].toNat_lt; omega
      have hak : -1100000 ≤ acc ∧ acc ≤ 1100000 := by omega
      have hcw : ∀ o', (w.alloc o').cell? ⟨p, o + k, none⟩ = some (.int .u8 (b[k].toNat : Int)) := fun o' => by rw [World.cell?_alloc_lt _ _ _ hp]; exact hc
      go_wp2_with fail
      go_round
      case rel => exact ⟨k + 1, acc * 64 + (b[k].toNat : Int) - 128, by omega, by omega, by go_num, rfl, by omega, Lib.hid (by rw [sumTo_succ b k hk1 hkl, HT.out])⟩
      case measure => simp [intOf]; omega
    · obtain rfl : k = n := by omega
      have HV : Hid (sumV b = acc) := Lib.hid (by rw [← sumTo_all, HN.out, HT.out])
      clear HT HS
      cases hs : scal acc with
      | false =>
        have HE := Lib.hid (guess_no HV.out (by rw [hs]; rintro ⟨h, _⟩; cases h))
        go_wp2_with (go_at_call 118; refine (SCAL.out acc _).mono ?_; rintro e w1 ⟨rfl, rfl⟩)
        go_quiet (fail)
        go_wp2_with fail
        go_ret
        exact ⟨ret_i64 HE.out.symm, below_drewN (below_drewN ((Below.refl _ _).alloc (Nat.le_refl _) _) _) _⟩
      | true =>
        have hsc := scal_nonneg hs
        have hlen : 0 < (bytesOf acc).length := by rw [bytesOf_len]; split; omega; split; omega; split <;> omega
        obtain ⟨q, hbe⟩ : ∃ q, (bytesU acc == b) = q := ⟨_, rfl⟩
        have HE : Hid (guessV b = if q then acc else -1) := by
          cases q with
          | true => exact Lib.hid (guess_yes HV.out hs (by simpa using hbe))
          | false => exact Lib.hid (guess_no HV.out (by rintro ⟨_, h⟩; rw [h] at hbe; simp at hbe))
        have CV := Lib.hid (fun (wx : World) (h : At wx (some ⟨p, o, none⟩) (b.map U8)) => conv_at (P := Tryd.prog) wx 68 9 5 (some ⟨p, o, none⟩) cap k b HN.out (by omega) Tryd.underlying68 Tryd.underlying5 Tryd.underlying9 h)
        have CW := Lib.hid (fun (wx : World) (ad : Addr) (c : Nat) (h : At wx (some ad) ((bytesOf acc).map (Value.int .u8))) => conv_at (P := Tryd.prog) wx 68 9 5 (some ad) c (bytesOf acc).length (bytesU acc) (bytesU_length acc) hlen Tryd.underlying68 Tryd.underlying5 Tryd.underlying9 (by rw [← bytesU_cells]; exact h))
        go_wp2_with (go_at_call 118; refine (SCAL.out acc _).mono ?_; rintro e w1 ⟨rfl, rfl⟩)
        obtain ⟨W, hW⟩ : ∃ W, w.alloc (.cells #[.int .i64 0, .int .i64 0, .int .i64 192, .int .i64 224, .int .i64 240] 135) = W := ⟨_, rfl⟩
        have HB : Hid (Below w.heap.size w W) := Lib.hid (hW ▸ (Below.refl _ _).alloc (Nat.le_refl _) _)
        rw [hW]
        clear hW hc0' hc0
        have hsz : w.heap.size ≤ W.heap.size := HB.out.size
        have c0' : ∀ n, (convert 68 9 (.slice (some ⟨p, o, none⟩) k cap)).run Tryd.prog (W.drewN n) = .ok (.string (B b)) (W.drewN n) := fun n => CV.out _ ((H1.out.below HB.out).drewN n)
        have c0'' : ∀ n, (convert 68 9 (.slice (some ⟨p, o, none⟩) k cap)).run Tryd.prog (W.drewN n).drew = .ok (.string (B b)) (W.drewN n).drew := fun n => CV.out _ ((H1.out.below HB.out).drewN (n + 1))
        go_region_with (go_at_call 119; refine (BYT.out acc _ hsc.1 hsc.2.1).mono ?_; rintro e w5 ⟨c5, rfl, hA5, hb5⟩; have k1 := CW.out w5 ⟨W.heap.size, 0, none⟩ c5 hA5; have k2 := CV.out w5 (((H1.out.below HB.out).drewN _).below hb5))
        all_goals
          cases q with
          | true =>
            go_wp2_with fail
            go_ret
            exact ⟨ret_i64 HE.out.symm, by first | exact guess_below HB.out ‹_› | exact below_drewN HB.out _⟩
          | false =>
            go_wp2_with fail
            go_ret
            exact ⟨ret_i64 HE.out.symm, by first | exact guess_below HB.out ‹_› | exact below_drewN HB.out _⟩
end Go.Proofs.YtfjcbodkjjmagaaDoor
