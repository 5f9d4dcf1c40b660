/- The walk of Parse. -/
import Derived.Test.YtlonhkechpgbiaaSha17
namespace Go.Proofs.Ytlonhkechpgbiaa.Sh
open Go.RowKit Go.Proofs.Ytlonhkechpgbiaa.Pr Go.Proofs.YtlonhkechpgbiaaW.PrintWords Go.Proofs.YtlonhkechpgbiaaW.PrintLast Go.Proofs.YtlonhkechpgbiaaW.PrintMore
open Go.Proofs.Ytlonhkechpgbiaa.QT (OwnAt Fresh)
set_option linter.unusedVariables false
set_option linter.unusedSimpArgs false
def dgt (c : Int) : Int × Bool := if 48 ≤ c ∧ c ≤ 57 then (c - 48, true) else if 97 ≤ c ∧ c ≤ 102 then (c - 87, true) else (0, false)
theorem dgt_all : ∀ c : Fin 256, sha_digit.f 3 (c.val : Int) = some (dgt c.val) := by decide +kernel
theorem digit_c (c : Int) (h0 : 0 ≤ c) (h1 : c ≤ 255) (w : World) (x : Int) (o : Bool) (hx : dgt c = (x, o)) : Calls Try.prog 24 #[.int .u8 c] w fun e w' => e = .returned (.tuple #[.int .u8 x, .bool o]) ∧ Drawn0 w w' := by
  have h := dgt_all ⟨c.toNat, by omega⟩
  simp only [show ((c.toNat : Nat) : Int) = c by omega, hx] at h
  exact sha_digit.calls 3 c x o w h
theorem dgt_range {c : Int} {x : Int} {o : Bool} (hx : dgt c = (x, o)) : 0 ≤ x ∧ x ≤ 15 := by
  unfold dgt at hx
  split at hx
  · cases hx; omega
  · split at hx
    · cases hx; omega
    · cases hx; omega
theorem idxS (s : ByteArray) (i : Int) (h0 : 0 ≤ i) (h1 : i < s.size) (w : World) : (Instr.index 9 (.string s) (.int .i64 i)).run Try.prog w = .ok (.int .u8 (bt s i)) w := by
  rw [run_index_string (h := Try.underlying9), dif_pos ⟨h0, h1⟩, bt_at s i]
/-- What Parse has made after k digits' pairs. -/
def prs (s : ByteArray) : Nat → Option (List Int)
  | 0 => some (List.replicate 32 0)
  | k + 1 => match prs s k with
    | none => none
    | some L => if (dgt (bt s (2 * k))).2 = true ∧ (dgt (bt s (2 * k + 1))).2 = true then some (L.set k ((dgt (bt s (2 * k))).1 * 16 + (dgt (bt s (2 * k + 1))).1)) else none
def parsed (s : ByteArray) : List Int × Bool := if s.size = 64 then match prs s 32 with | some L => (L, true) | none => (List.replicate 32 0, false) else (List.replicate 32 0, false)
theorem or_all : ∀ a b : Fin 16, Go.bits .or .u8 ((a.val : Int) * 16) (b.val : Int) = (a.val : Int) * 16 + b.val := by decide +kernel
theorem or16 {a b : Int} (a0 : 0 ≤ a) (a1 : a ≤ 15) (b0 : 0 ≤ b) (b1 : b ≤ 15) : Go.bits .or .u8 (a * 16) b = a * 16 + b := by
  have := or_all ⟨a.toNat, by omega⟩ ⟨b.toNat, by omega⟩
  simpa [show ((a.toNat : Nat) : Int) = a by omega, show ((b.toNat : Nat) : Int) = b by omega] using this
theorem results_pair {fn : Func} {p q : Tmp} {ty : TypeId} (h : fn.results = #[.cell p ty, .tmp q]) (tmps : Array Value) (w : World) (g : Nat) (t : TypeId) (cs : Array Value) (fr : Nat × Nat) (m : Nat) (e : TypeId) (b : Bool)
    (hp : tmps.getD p undef = .pointer (some ⟨g, 0, none⟩)) (hq : tmps.getD q undef = .bool b) (hg : w.heap[g]? = some (.cells cs t fr))
    (hu : Try.prog.underlying ty = some (.array m e)) (hi : (Try.prog.info? ty).map (·.size) = some cs.size) :
    (results fn tmps).run Try.prog w = .ok (.tuple #[.agg cs, .bool b]) w := by
  have hp' : tmps[p]?.getD undef = .pointer (some ⟨g, 0, none⟩) := by simpa using hp
  have hq' : tmps[q]?.getD undef = .bool b := by simpa using hq
  simp [results, h, hp', hq', asAddr, run_loadVar_row w g t ty cs fr _ hg hu rfl hi]
theorem prs_none (s : ByteArray) (k : Nat) (h : prs s k = none) : ∀ d, prs s (k + d) = none
  | 0 => h
  | d + 1 => by rw [Nat.add_succ, prs, prs_none s k h d]
set_option maxHeartbeats 2000000 in
set_option maxRecDepth 100000 in
theorem parse_calls (s : ByteArray) (hs : s.size ≤ 140737488351232) (w : World) : Calls Try.prog 16 #[.string s] w fun e w' => e = .returned (.tuple #[.agg (u8s (parsed s).1), .bool (parsed s).2]) ∧ Below w.heap.size w w' := by
  by_cases h64 : s.size = 64
  · have l0 : ((s.size : Int) != 64) = false := by simp [h64]
    go_enter Try.func16, Try.ntmps16
    go_wp2_with fail
    obtain ⟨w1, hw1⟩ : ∃ w1, w1 = w.alloc (.cells (u8s (List.replicate 32 0)) 27) := ⟨_, rfl⟩
    change Code.wp _ _ _ _ (w.alloc (.cells (u8s (List.replicate 32 0)) 27))
    rw [← hw1]
    have HA : Aside0 (ArrB w1 w.heap.size 27 (List.replicate 32 0)) := ⟨by rw [hw1]; exact blk_new _ _⟩
    have HW : Aside0 (Below w.heap.size w w1) := ⟨by rw [hw1]; exact below_alloc (Below.refl _ _) _⟩
    have H64 := Aside0.mk h64
    have hsz : (s.size : Int) = 64 := by omega
    clear hw1 h64 l0
    go_loopg [13] 32 (fun gk v13 wr => ∃ (k : Nat) (L : List Int), v13 = .int .i64 k ∧ Aside0 (k ≤ 32) ∧ Aside0 (32 - k ≤ gk) ∧ Aside0 (prs s k = some L) ∧ Aside0 (L.length = 32) ∧ Aside0 (ArrB wr w.heap.size 27 L) ∧ Aside0 (Below w.heap.size w wr))
    case atStart => exact ⟨0, _, rfl, ⟨by omega⟩, ⟨by omega⟩, ⟨rfl⟩, ⟨by simp⟩, HA, HW⟩
    case round =>
      clear HA HW
      obtain ⟨k, L, rfl, Hk, HG, HPR, HL, HA, HW⟩ := hrel
      have hk := Hk.out
      by_cases hlt : k < 32
      · have l1 : decide ((k : Int) < 32) = true := decide_eq_true (by omega)
        have i1 := idxS s (2 * (k : Int)) (by omega) (by omega)
        have i2 := idxS s (2 * (k : Int) + 1) (by omega) (by omega)
        have r1 := bt_range s (2 * (k : Int))
        have r2 := bt_range s (2 * (k : Int) + 1)
        obtain ⟨c1, hc1⟩ : ∃ c, c = bt s (2 * (k : Int)) := ⟨_, rfl⟩
        obtain ⟨c2, hc2⟩ : ∃ c, c = bt s (2 * (k : Int) + 1) := ⟨_, rfl⟩
        rw [← hc1] at i1 r1
        rw [← hc2] at i2 r2
        obtain ⟨x, o1, hx⟩ : ∃ x o, dgt c1 = (x, o) := ⟨_, _, rfl⟩
        obtain ⟨y, o2, hy⟩ : ∃ x o, dgt c2 = (x, o) := ⟨_, _, rfl⟩
        have hxr := dgt_range hx
        have hyr := dgt_range hy
        have HX := Aside0.mk hx
        have HY := Aside0.mk hy
        have HC1 := Aside0.mk hc1
        have HC2 := Aside0.mk hc2
        have z1 : IntKind.i64.wrap (2 * (k : Int)) = 2 * (k : Int) := IntWalk.i64_in _ (by omega)
        clear hx hy hc1 hc2
        go_wp2_with fail
        refine (digit_c c1 r1.1 r1.2 wr x o1 HX.out).mono ?_
        rintro e w2 ⟨rfl, m1, hw2⟩
        have HA2 : Aside0 (ArrB w2 w.heap.size 27 L) := ⟨by rw [hw2]; exact HA.out⟩
        have HW2 : Aside0 (Below w.heap.size w w2) := ⟨by rw [hw2]; exact pw_below_drewN HW.out m1⟩
        clear hw2 HA HW
        go_wp2_with fail
        refine (digit_c c2 r2.1 r2.2 w2 y o2 HY.out).mono ?_
        rintro e w3 ⟨rfl, m2, hw3⟩
        have HA3 : Aside0 (ArrB w3 w.heap.size 27 L) := ⟨by rw [hw3]; exact HA2.out⟩
        have HW3 : Aside0 (Below w.heap.size w w3) := ⟨by rw [hw3]; exact pw_below_drewN HW2.out m2⟩
        clear hw3 HA2 HW2 i1 i2
        have hstep : prs s (k + 1) = if o1 = true ∧ o2 = true then some (L.set k (x * 16 + y)) else none := by
          rw [prs, HPR.out]
          simp only [← HC1.out, ← HC2.out, HX.out, HY.out]
        have HST := Aside0.mk hstep
        have m0 := HA3.out.cell k (by rw [HL.out]; exact hlt)
        have mf := HA3.out.fr k
        have e16 := or16 hxr.1 hxr.2 hyr.1 hyr.2
        clear hstep
        cases o1 with
        | false =>
            have HBAD : Aside0 (parsed s = (List.replicate 32 0, false)) := ⟨by
              have h1 : prs s (k + 1) = none := by rw [HST.out]; simp
              have h2 := prs_none s (k + 1) h1 (31 - k)
              rw [show k + 1 + (31 - k) = 32 by omega] at h2
              rw [parsed, if_pos H64.out, h2]⟩
            go_wp2_with (refine wpList_store_row rfl 27 _ _ rfl w.heap.size (u8s (List.replicate 32 0)) rfl rfl 27 _ HA3.out (info32 (by simp)) (by rw [u8s_size, u8s_size, HL.out]; rfl) (u8s_one _) ?_)
            exact bodyPost_ret (results_pair rfl _ _ w.heap.size 27 (u8s (List.replicate 32 0)) (0, 0) 32 5 false rfl rfl (setRow_heap _ _ _ _ _ _ HA3.out) Try.underlying27 (info32 (by simp))) rfl ⟨by rw [HBAD.out], below_setRow HW3.out (Nat.le_refl _) _⟩
        | true =>
          cases o2 with
          | false =>
            have HBAD : Aside0 (parsed s = (List.replicate 32 0, false)) := ⟨by
              have h1 : prs s (k + 1) = none := by rw [HST.out]; simp
              have h2 := prs_none s (k + 1) h1 (31 - k)
              rw [show k + 1 + (31 - k) = 32 by omega] at h2
              rw [parsed, if_pos H64.out, h2]⟩
            go_wp2_with (refine wpList_store_row rfl 27 _ _ rfl w.heap.size (u8s (List.replicate 32 0)) rfl rfl 27 _ HA3.out (info32 (by simp)) (by rw [u8s_size, u8s_size, HL.out]; rfl) (u8s_one _) ?_)
            exact bodyPost_ret (results_pair rfl _ _ w.heap.size 27 (u8s (List.replicate 32 0)) (0, 0) 32 5 false rfl rfl (setRow_heap _ _ _ _ _ _ HA3.out) Try.underlying27 (info32 (by simp))) rfl ⟨by rw [HBAD.out], below_setRow HW3.out (Nat.le_refl _) _⟩
          | true =>
            go_wp2
            go_roundg (32 - (k + 1))
            case measure => have := HG.out; omega
            case rel =>
              exact ⟨k + 1, L.set k (x * 16 + y), by go_num, ⟨by omega⟩, ⟨Nat.le_refl _⟩, ⟨by rw [HST.out]; simp⟩, ⟨by rw [List.length_set]; exact HL.out⟩, ⟨ArrB.set HA3.out _ _⟩, ⟨HW3.out.setCell (Nat.le_refl _) _⟩⟩
      · have l1 : decide ((k : Int) < 32) = false := decide_eq_false (by omega)
        have hk32 : k = 32 := by omega
        subst hk32
        have HOKP : Aside0 (parsed s = (L, true)) := ⟨by rw [parsed, if_pos H64.out, HPR.out]⟩
        have HI := Aside0.mk (info32 HL.out)
        clear hlt hk
        go_wp2_with (first | (refine wpList_load_row rfl 27 _ rfl w.heap.size rfl 27 (u8s L) (0, 0) _ HA.out Try.underlying27 rfl HI.out ?_) | (refine wpList_store_row rfl 27 _ _ rfl w.heap.size (u8s L) rfl rfl 27 _ HA.out HI.out rfl (u8s_one _) ?_))
        exact bodyPost_ret (results_pair rfl _ _ w.heap.size 27 (u8s L) (0, 0) 32 5 true rfl rfl (setRow_heap _ _ _ _ _ _ HA.out) Try.underlying27 HI.out) rfl ⟨by rw [HOKP.out], below_setRow HW.out (Nat.le_refl _) _⟩
  · have l0 : ((s.size : Int) != 64) = true := by simp; omega
    go_enter Try.func16, Try.ntmps16
    have HBAD : Aside0 (parsed s = (List.replicate 32 0, false)) := ⟨by rw [parsed, if_neg h64]⟩
    go_wp2_with (refine wpList_store_row rfl 27 _ _ rfl w.heap.size (u8s (List.replicate 32 0)) rfl rfl 27 _ (blk_new w (.cells (u8s (List.replicate 32 0)) 27)) (info32 (by simp)) rfl (u8s_one _) ?_)
    exact bodyPost_ret (results_pair rfl _ _ w.heap.size 27 (u8s (List.replicate 32 0)) (0, 0) 32 5 false rfl rfl (setRow_heap _ _ _ _ _ _ (blk_new w (.cells (u8s (List.replicate 32 0)) 27))) Try.underlying27 (info32 (by simp))) rfl ⟨by rw [HBAD.out], below_setRow (below_alloc (Below.refl _ _) _) (Nat.le_refl _) _⟩
end Go.Proofs.Ytlonhkechpgbiaa.Sh
