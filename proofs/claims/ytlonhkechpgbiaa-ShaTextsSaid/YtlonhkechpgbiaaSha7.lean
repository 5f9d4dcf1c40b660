/- The walk of Sum. -/
import Derived.Test.YtlonhkechpgbiaaSha6
namespace Go.Proofs.Ytlonhkechpgbiaa.Sh
open Go.RowKit Go.Proofs.Ytlonhkechpgbiaa.Pr Go.Proofs.YtlonhkechpgbiaaW.PrintWords Go.Proofs.YtlonhkechpgbiaaW.PrintLast Go.Proofs.YtlonhkechpgbiaaW.PrintMore
open Go.Proofs.Ytlonhkechpgbiaa.QT (OwnAt)
set_option linter.unusedVariables false
set_option linter.unusedSimpArgs false
/-- A digest's state. -/
structure DS where
  s : S8
  b : Bool
  r : List Int
  n : Int
def DS.new : DS := ⟨⟨0, 0, 0, 0, 0, 0, 0, 0⟩, false, [], 0⟩
def DS.write (d : DS) (p : List Int) : DS :=
  let q := eat (d.r.length + p.length) d.s d.b (d.r ++ p)
  ⟨q.1, q.2.1, q.2.2, d.n + p.length⟩
def DS.sum (d : DS) : List Int :=
  let q := eat (padD d.r d.n).length d.s d.b (padD d.r d.n)
  hashL (begun q.2.1 q.1).list 8
def DS.feed (d : DS) (L : List (List Int)) : DS := L.foldl DS.write d
def sumL (L : List (List Int)) : List Int := (DS.new.feed L).sum
/-- Rows of bytes, as they are handed in. -/
def Parts (w : World) (A : Option Addr) (L : List (List Int)) : Prop :=
  ∀ i, i < L.length → ∃ (ad : Addr) (Ai : Option Addr) (ci : Nat), A = some ad ∧ w.cell? (ad.add i) = some (.slice Ai (L.getD i []).length ci) ∧ (L.getD i []).length ≤ ci ∧ Kd.C (Kd.int .u8) w Ai (L.getD i []).length (L.getD i [])
def tot (L : List (List Int)) : Nat := (L.map List.length).sum

/-- A digest as it stands. -/
def DigS (w : World) (base g : Nat) (d : DS) : Prop := ∃ R, DigL w g d.s.list d.b R d.n ∧ OwnAt w base 5 R (nums .u8 d.r) ∧ R.ownBlock ≠ some g
structure DS.Ok (d : DS) (t : Nat) : Prop where
  n0 : 0 ≤ d.n
  n1 : d.n ≤ t
  r0 : d.r.length ≤ t
  rb : ∀ x ∈ d.r, 0 ≤ x ∧ x ≤ 255
theorem eat_len : ∀ (f : Nat) (s : S8) (b : Bool) (r : List Int), (eat f s b r).2.2.length ≤ r.length
  | 0, s, b, r => Nat.le_refl _
  | f + 1, s, b, r => by
    rw [eat]
    split
    · exact Nat.le_trans (eat_len f _ _ _) (by rw [List.length_drop]; omega)
    · exact Nat.le_refl _
theorem eat_mem : ∀ (f : Nat) (s : S8) (b : Bool) (r : List Int) (x : Int), x ∈ (eat f s b r).2.2 → x ∈ r
  | 0, s, b, r, x, h => h
  | f + 1, s, b, r, x, h => by
    rw [eat] at h
    split at h
    · exact List.mem_of_mem_drop (eat_mem f _ _ _ x h)
    · exact h
theorem DS.Ok.write {d : DS} {t : Nat} (h : d.Ok t) (p : List Int) (hp : ∀ x ∈ p, 0 ≤ x ∧ x ≤ 255) : (d.write p).Ok (t + p.length) := by
  refine ⟨by show 0 ≤ d.n + p.length; have := h.n0; omega, by show d.n + p.length ≤ _; have := h.n1; omega, ?_, fun x hx => ?_⟩
  · have := eat_len (d.r.length + p.length) d.s d.b (d.r ++ p)
    rw [List.length_append] at this
    have h2 := h.r0
    show (eat (d.r.length + p.length) d.s d.b (d.r ++ p)).2.2.length ≤ t + p.length
    omega
  · rcases List.mem_append.1 (eat_mem _ _ _ _ x hx) with h2 | h2
    · exact h.rb x h2
    · exact hp x h2
theorem DigS.carry {w w' : World} {base g : Nat} {d : DS} (h : DigS w base g d) (hs : w.heap.size ≤ w'.heap.size) (hk : ∀ i, i < w.heap.size → base ≤ i ∨ i = g → w'.heap[i]? = w.heap[i]?) : DigS w' base g d := by
  obtain ⟨R, h1, h2, h3⟩ := h
  exact ⟨R, (hk g (blk_lt h1) (.inr rfl)).trans h1, h2.carry hs (fun k hv => hk k (h2.lt k hv) (.inl (h2.base_le k hv))), h3⟩
theorem DigS.below {w w' : World} {base g : Nat} {d : DS} (h : DigS w base g d) (hb : Below w.heap.size w w') : DigS w' base g d := h.carry hb.size (fun i hi _ => hb.block i hi)
theorem writeS_calls (base g : Nat) (d : DS) (t : Nat) (hd : d.Ok t) (w : World) (h : DigS w base g d) (hbg : base ≤ g)
    (A : Option Addr) (c : Nat) (p : List Int) (hp : Kd.C (Kd.int .u8) w A p.length p) (hpg : ∀ ad, A = some ad → 0 < p.length → ad.block ≠ g) (hc : p.length ≤ c) (hpb : ∀ x ∈ p, 0 ≤ x ∧ x ≤ 255) (ht : t + p.length ≤ 70368744177664) :
    Calls Try.prog 13 #[.pointer (some ⟨g, 0, none⟩), .slice A p.length c] w fun e w' => e = .returned (.tuple #[]) ∧ DigS w' base g (d.write p) ∧ Below base w w' ∧ (∀ R, w.cell? ⟨g, 9, none⟩ = some R → Kp w w' g R.ownBlock) := by
  obtain ⟨R, h1, h2, h3⟩ := h
  have := hd.n1
  have := hd.r0
  refine (write_calls base g d.s d.b R d.r d.n w h1 h2 h3 hbg A c p hp hpg hc (fun x hx => by
    rcases List.mem_append.1 hx with hx | hx
    · exact hd.rb x hx
    · exact hpb x hx) hd.n0 (by omega) (by omega) _ _ _ rfl).mono ?_
  rintro e w' ⟨rfl, R', k1, k2, k3, k4, k5, _⟩
  refine ⟨rfl, ⟨R', k1, k2, k3⟩, k5, fun R2 hR2 => ?_⟩
  rw [h1.rest rfl] at hR2
  cases hR2
  exact k4
theorem dsumS_calls (base g : Nat) (d : DS) (t : Nat) (hd : d.Ok t) (w : World) (h : DigS w base g d) (ht : t ≤ 70368744177664) :
    Calls Try.prog 14 #[.pointer (some ⟨g, 0, none⟩)] w fun e w' => e = .returned (.agg (u8s d.sum)) ∧ Below w.heap.size w w' := by
  obtain ⟨R, h1, h2, h3⟩ := h
  have := hd.n1
  have := hd.r0
  exact dsum_calls base g d.s d.b R d.r d.n w h1 h2 hd.n0 (by omega) (by omega) hd.rb _ _ _ rfl

theorem new_at (w : World) (g : Nat) (hg : w.heap.size = g) : Calls Try.prog 12 #[] w fun e w' => e = .returned (.pointer (some ⟨g, 0, none⟩)) ∧ w' = w.alloc (.cells (u32s [0, 0, 0, 0, 0, 0, 0, 0] ++ #[.bool false, .slice none 0 0, .int .i64 0]) 38) := by
  subst hg
  exact new_calls w
theorem blk_at {w : World} {g : Nat} (o : Obj) (hg : g = w.heap.size) : (w.alloc o).heap[g]? = some o := by
  subst hg
  exact blk_new w o
set_option maxHeartbeats 4000000 in
set_option maxRecDepth 100000 in
theorem sum_calls (A : Option Addr) (c : Nat) (L : List (List Int)) (w : World) (hP : Parts w A L) (hc : L.length ≤ 9223372036854775807) (hb : ∀ l ∈ L, ∀ x ∈ l, 0 ≤ x ∧ x ≤ 255) (ht : tot L ≤ 70368744177664) :
    Calls Try.prog 10 #[.slice A L.length c] w fun e w' => e = .returned (.agg (u8s (sumL L))) ∧ Below w.heap.size w w' := by
  have HP := Aside0.mk hP
  have HB := Aside0.mk hb
  clear hP hb
  go_enter Try.func10, Try.ntmps10
  go_wp2_with fail
  refine (new_at _ (w.heap.size + 1) (by simp)).mono ?_
  rintro e wn ⟨rfl, hwn⟩
  obtain ⟨g, hg⟩ : ∃ g, g = w.heap.size + 1 := ⟨_, rfl⟩
  rw [← hg]
  have HG := Aside0.mk hg
  have HD : Aside0 (DigS wn (w.heap.size + 1) g DS.new) := ⟨⟨_, by rw [hwn, hg]; exact blk_at _ (by simp), OwnAt.nil _ _ _, by simp [Value.ownBlock]⟩⟩
  have HR : Aside0 (ArrB wn w.heap.size 27 (List.replicate 32 0)) := ⟨by rw [hwn]; exact blk_alloc (blk_new _ _) _⟩
  have HW : Aside0 (Below w.heap.size w wn) := ⟨by rw [hwn]; exact below_alloc (below_alloc (Below.refl _ _) _) _⟩
  clear hg hwn
  go_wp2
  go_loopg [9] (L.length) (fun gk v9 wr => ∃ (i : Nat) (d : DS) (t : Nat), v9 = .int .i64 i ∧ Aside0 (i ≤ L.length) ∧ Aside0 (L.length - i ≤ gk) ∧ Aside0 (d.Ok t) ∧ Aside0 (t + tot (L.drop i) ≤ 70368744177664) ∧ Aside0 (d.feed (L.drop i) = DS.new.feed L) ∧ Aside0 (DigS wr (w.heap.size + 1) g d) ∧ Aside0 (ArrB wr w.heap.size 27 (List.replicate 32 0)) ∧ Aside0 (Below w.heap.size w wr))
  case atStart => exact ⟨0, DS.new, 0, rfl, ⟨by omega⟩, ⟨by omega⟩, ⟨⟨by decide, by decide, by decide, fun x hx => by cases hx⟩⟩, ⟨by rw [List.drop_zero]; omega⟩, ⟨by rw [List.drop_zero]⟩, HD, HR, HW⟩
  case round =>
    clear HD HR HW
    obtain ⟨i, d, t, rfl, Hi, HG2, HOK, HT, HF, HD, HR, HW⟩ := hrel
    have hi := Hi.out
    by_cases hlt : i < L.length
    · have e1 : decide (i < L.length) = true := decide_eq_true hlt
      obtain ⟨ad, Ai, ci, rfl, hcell, hci, hC⟩ := HP.out i hlt
      obtain ⟨p, hp⟩ : ∃ p, p = L.getD i [] := ⟨_, rfl⟩
      rw [← hp] at hcell hci hC
      replace hcell := (HW.out.cell (World.block_lt_of_cell? w _ hcell)).trans hcell
      have hz : (i : Int) < (L.length : Int) := by omega
      have HC := Aside0.mk hC
      have HPP := Aside0.mk hp
      have hsplit : L.drop i = p :: L.drop (i + 1) := by rw [hp, List.getD_eq_getElem?_getD, List.getElem?_eq_getElem hlt]; exact List.drop_eq_getElem_cons hlt
      have HS := Aside0.mk hsplit
      have hmem : p ∈ L := by rw [hp, List.getD_eq_getElem?_getD, List.getElem?_eq_getElem hlt]; exact List.getElem_mem hlt
      have HM := Aside0.mk hmem
      clear hC hp hsplit hmem
      go_wp2_with fail
      refine (writeS_calls (w.heap.size + 1) g d t HOK.out wr HD.out (by rw [HG.out]; exact Nat.le_refl _) Ai ci p (Kd.C_below HC.out HW.out) (fun ad hA hp => by
          subst hA
          have := Kd.C_lt HC.out hp (by decide)
          rw [HG.out]; omega) hci (HB.out p HM.out) (by have := HT.out; rw [HS.out] at this; simp only [tot, List.map_cons, List.sum_cons] at this ⊢; omega)).mono ?_
      rintro e w5 ⟨rfl, hd5, hb5, _⟩
      go_wp2
      go_roundg (L.length - (i + 1))
      case measure => have := HG2.out; omega
      case rel =>
        refine ⟨i + 1, d.write p, t + p.length, by go_num, ⟨by omega⟩, ⟨Nat.le_refl _⟩, ⟨HOK.out.write p (HB.out p HM.out)⟩, ⟨?_⟩, ⟨?_⟩, ⟨hd5⟩, ⟨(hb5.block _ (by omega)).trans HR.out⟩, ⟨HW.out.trans (hb5.mono (by omega))⟩⟩
        · have := HT.out; rw [HS.out] at this; simp only [tot, List.map_cons, List.sum_cons] at this ⊢; omega
        · have := HF.out; rw [HS.out] at this; exact this
    · have e1 : decide (i < L.length) = false := decide_eq_false hlt
      have hF := HF.out
      rw [List.drop_of_length_le (by omega)] at hF
      have hF' : d = DS.new.feed L := hF
      have ht' : t ≤ 70368744177664 := by have := HT.out; omega
      have HF' := Aside0.mk hF'
      have HTT := Aside0.mk ht'
      clear hF hF' ht' hlt
      go_wp2_with fail
      refine (dsumS_calls _ g d t HOK.out wr HD.out HTT.out).mono ?_
      rintro e w6 ⟨rfl, hb6⟩
      have hO32 : (d.sum).length = 32 := hashL_length _ 8
      obtain ⟨O, hO⟩ : ∃ O, O = d.sum := ⟨_, rfl⟩
      rw [← hO] at hO32 ⊢
      have HP6 : Aside0 (ArrB w6 w.heap.size 27 (List.replicate 32 0)) := ⟨blk_below HR.out hb6⟩
      have HI32 := Aside0.mk (info32 hO32)
      have HB6 := Aside0.mk (HW.out.trans (hb6.mono HW.out.size))
      have HO32 := Aside0.mk hO32
      have HOO := Aside0.mk hO
      clear hO hO32 hb6
      go_wp2_with (refine wpList_store_row rfl 27 _ _ rfl w.heap.size (u8s O) rfl rfl 27 _ HP6.out HI32.out (by rw [u8s_size, u8s_size, HO32.out]; rfl) (u8s_one O) ?_)
      exact bodyPost_ret (v := .agg (u8s O)) (results_cell_row rfl _ _ w.heap.size 27 (u8s O) (0, 0) _ rfl (setRow_heap _ _ _ _ _ _ HP6.out) Try.underlying27 rfl HI32.out) rfl ⟨by rw [HOO.out, HF'.out]; rfl, below_setRow HB6.out (Nat.le_refl _) _⟩
end Go.Proofs.Ytlonhkechpgbiaa.Sh
