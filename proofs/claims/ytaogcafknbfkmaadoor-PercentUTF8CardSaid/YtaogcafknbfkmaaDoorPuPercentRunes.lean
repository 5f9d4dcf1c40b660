/- The pure statements of the percent laws about UTF-8. -/
import Derived.Test.YtaogcafknbfkmaaDoorPuPercentLaws
import Derived.Test.YtaogcafknbfkmaaDoorPuUtf8
namespace Go.Proofs.YtaogcafknbfkmaaDoor.Pu
open Go.RowKit Go.Proofs.YtaogcafknbfkmaaDoor.Pr Go.Proofs.YtaogcafknbfkmaaDoorW.PrintWords
set_option linter.unusedVariables false
set_option linter.unusedSimpArgs false

theorem lib_ev (x : ByteArray) (hx : x.size ≤ 1000000) : percent_UTF8.f x = some (Go.Lib.validD x.data.toList) := by
  unfold percent_UTF8.f utf8_ValidString.f
  rw [if_pos (by omega)]; rfl

theorem PercentUTF8 : parapetlaw9_PercentUTF8.Pure := by
  intro a ha
  apply Ev.rounds
  show Ev (fun k => parapetlaw9_PercentUTF8.f k a) true
  unfold parapetlaw9_PercentUTF8.f
  by_cases h : (a.size : Int) > 3000
  · simp only [h, if_true]; exact awake_end
  · simp only [h, if_false]
    rw [lib_ev a (by omega)]
    simp only [Option.bind_some]
    refine Ev.bind (utf8_ev a (by omega)) ?_
    simp only [beq_self_eq_true, if_true]
    exact awake_end

/-- A short list is valid, or not, by its first rune. -/
theorem short_valid (xs : List Int) (hB : Byt xs) (hn : 0 < xs.length) :
    (runeLen xs.length (rd xs 0) (rd xs 1) (rd xs 2) (rd xs 3) = xs.length → Go.Lib.validD (strOfNums xs).data.toList = true) ∧
    (runeLen xs.length (rd xs 0) (rd xs 1) (rd xs 2) (rd xs 3) = 0 → Go.Lib.validD (strOfNums xs).data.toList = false) := by
  have hs : (strOfNums xs).size = xs.length := strOfNums_size xs
  have hl : (strOfNums xs).data.toList.length = xs.length := by rw [data_length, hs]
  have hne : (strOfNums xs).data.toList ≠ [] := by intro e; rw [e] at hl; simp at hl; omega
  have hb : ∀ j : Int, bt (strOfNums xs) j = rd xs j := by intro j; rw [← rd_bytesOf, bytesOf_str xs hB]
  have e := runeD_eq (strOfNums xs) (by omega)
  rw [hs, hb, hb, hb, hb] at e
  have hv := valid_brk _ (strOfNums xs).data.toList (Nat.le_refl _)
  have hst := brkL_step _ hne
  constructor
  · intro h
    rw [h] at e
    rw [hv, hst, if_neg (by omega), show (strOfNums xs).data.toList.drop (runeD (strOfNums xs).data.toList) = [] from List.drop_eq_nil_of_le (by omega)]
    simp only [brkL, List.length_nil, brk]; omega
  · intro h
    rw [h] at e
    cases q : Go.Lib.validD (strOfNums xs).data.toList with
    | false => rfl
    | true =>
      have := hv.1 q
      rw [hst, if_pos (by omega)] at this
      omega

theorem runes_end (u cut : Int) (xs long : List Int) (ok : Bool) (hu : 0 ≤ u) (hx : 0 < xs.length) (hx4 : xs.length ≤ 4) (hl4 : long.length ≤ 4) (hc : -9223372036854775808 ≤ cut) (hc2 : cut ≤ 9223372036854775807)
    (H1 : Go.Lib.validD (strOfNums xs).data.toList = ok) (H2 : ∀ k, 1 ≤ k → k < xs.length → Go.Lib.validD (strOfNums (xs.take k)).data.toList = false)
    (H3 : u < 2048 → Go.Lib.validD (strOfNums long).data.toList = false) : Ev (fun k => parapetlaw9_PercentRunes.j2 k u cut xs long ok) true := by
  obtain ⟨r, hr, r0, r1⟩ := round_f (k := cut) (n := (xs.length : Int)) (by omega) (by omega) hc hc2
  obtain ⟨r, rfl⟩ := Int.eq_ofNat_of_zero_le r0
  have hx := lib_ev (strOfNums xs) (by rw [strOfNums_size]; omega)
  have hlg := lib_ev (strOfNums long) (by rw [strOfNums_size]; omega)
  rw [H1] at hx
  refine Ev.step (f := fun k => (parapetlaw9_awake.f k).bind fun t => some t) (fun k => ?_) awake_end
  simp only [parapetlaw9_PercentRunes.j2]
  rw [hr]
  simp only [Option.bind_some]
  rw [hx]
  simp only [Option.bind_some, beq_self_eq_true, if_true]
  by_cases h0 : r = 0
  · subst h0
    simp only [Int.natCast_zero, if_true]
    by_cases hu2 : u ≥ 2048
    · rw [if_pos hu2]
    · rw [if_neg hu2, hlg, H3 (by omega)]
      simp only [Option.bind_some, Bool.false_eq_true, if_false]
  · rw [if_neg (by omega), if_pos (by omega), if_pos (by omega), Int.toNat_natCast]
    have hk := lib_ev (strOfNums (xs.take r)) (by rw [strOfNums_size, List.length_take]; omega)
    rw [H2 r (by omega) (by omega)] at hk
    rw [hk]
    simp only [Option.bind_some, Bool.false_eq_true, if_false]
    by_cases hu2 : u ≥ 2048
    · rw [if_pos hu2]
    · rw [if_neg hu2, hlg, H3 (by omega)]
      simp only [Option.bind_some, Bool.false_eq_true, if_false]

theorem or_and63 {u : Int} (h0 : 0 ≤ u) (h1 : u < 2097152) : (Go.bits .or .i64 128 (Go.bits .and .i64 u 63)) % 256 = 128 + u % 64 := by
  rw [show (63 : Int) = 2 ^ 6 - 1 from rfl, i64_mask 6 (by omega) u h0 (by omega), i64_join 6 128 (u % 2 ^ 6) (by omega) (by decide) (by omega) (by omega) (by omega) (by omega)]
  omega
theorem or_lead {c v : Int} (i : Nat) (hc : 0 ≤ c) (hc2 : c < 256) (hci : c % 2 ^ i = 0) (h0 : 0 ≤ v) (h1 : v < 2 ^ i) (h2 : v < 64) (h3 : c + v < 256) : (Go.bits .or .i64 c v) % 256 = c + v := by
  rw [i64_join i c v hc hci (by omega) h0 h1 (by omega)]
  omega

def longOf (u : Int) : List Int := [(Go.bits .or .i64 224 (Go.bits .and .i64 (u / 4096) 15)) % 256, (Go.bits .or .i64 128 (Go.bits .and .i64 (u / 64) 63)) % 256, (Go.bits .or .i64 128 (Go.bits .and .i64 u 63)) % 256]
theorem longOf_eq {u : Int} (h0 : 0 ≤ u) (h1 : u < 2097152) : longOf u = [224 + u / 4096 % 16, 128 + u / 64 % 64, 128 + u % 64] := by
  unfold longOf
  rw [or_and63 (by omega) (by omega), or_and63 h0 h1, show (15 : Int) = 2 ^ 4 - 1 from rfl, i64_mask 4 (by omega) (u / 4096) (by omega) (by omega), or_lead 4 (by omega) (by omega) (by decide) (by omega) (by omega) (by omega) (by omega)]
  rfl
theorem long_bad {u : Int} (h0 : 0 ≤ u) (h1 : u < 2048) : Go.Lib.validD (strOfNums (longOf u)).data.toList = false := by
  rw [longOf_eq h0 (by omega)]
  refine (short_valid _ ?_ (by simp)).2 ?_
  · intro x hx; simp at hx; omega
  · show runeLen 3 (224 + u / 4096 % 16) (128 + u / 64 % 64) (128 + u % 64) 0 = 0
    unfold runeLen
    rw [if_neg (by omega), if_neg (by omega), if_neg (by omega), if_pos (by omega), if_neg (by omega)]

/-- The one pure statement of PercentRunes. -/
theorem PercentRunes : parapetlaw9_PercentRunes.Pure := by
  intro u cut hu hcut
  have hcr := i64_range hcut
  apply Ev.rounds
  show Ev (fun k => parapetlaw9_PercentRunes.f k u cut) true
  have yes : Ev (fun n => parapetlaw9_PercentRunes.j0 n u cut true) true := by
    refine Ev.step (fun n => ?_) awake_end
    simp only [parapetlaw9_PercentRunes.j0, if_true]
  unfold parapetlaw9_PercentRunes.f
  by_cases h : u < 0
  · simp only [h, if_true]; exact yes
  · simp only [h, if_false]
    by_cases h2 : u > 2097151
    · simp only [h2, decide_true]; exact yes
    · simp only [h2, decide_false]
      -- the list of bytes, then whether it is to be one
      have fin : ∀ xs : List Int, 0 < xs.length → xs.length ≤ 4 → (∀ ok, (ok = true ↔ (u ≤ 1114111 ∧ (u < 55296 ∨ u > 57343))) → Go.Lib.validD (strOfNums xs).data.toList = ok) → (∀ k, 1 ≤ k → k < xs.length → Go.Lib.validD (strOfNums (xs.take k)).data.toList = false) → Ev (fun k => parapetlaw9_PercentRunes.j1 k u cut xs) true := by
        intro xs a1 a2 a3 a4
        have go : ∀ ok, (ok = true ↔ (u ≤ 1114111 ∧ (u < 55296 ∨ u > 57343))) → Ev (fun k => parapetlaw9_PercentRunes.j2 k u cut xs (longOf u) ok) true := fun ok hok =>
          runes_end u cut xs (longOf u) ok (by omega) a1 a2 (by simp [longOf]) hcr.1 hcr.2 (a3 ok hok) a4 (fun q => long_bad (by omega) q)
        by_cases q1 : u ≤ 1114111
        · by_cases q2 : u < 55296
          · refine Ev.step (fun k => ?_) (go true ⟨fun _ => ⟨q1, .inl q2⟩, fun _ => rfl⟩)
            simp only [parapetlaw9_PercentRunes.j1, Option.bind_some]
            rw [if_pos q1, if_pos q2]; rfl
          · by_cases q3 : u > 57343
            · refine Ev.step (fun k => ?_) (go true ⟨fun _ => ⟨q1, .inr q3⟩, fun _ => rfl⟩)
              simp only [parapetlaw9_PercentRunes.j1, Option.bind_some]
              rw [if_pos q1, if_neg q2, decide_eq_true q3]; rfl
            · refine Ev.step (fun k => ?_) (go false ⟨(fun e => by cases e), (fun e => by omega)⟩)
              simp only [parapetlaw9_PercentRunes.j1, Option.bind_some]
              rw [if_pos q1, if_neg q2, decide_eq_false q3]; rfl
        · refine Ev.step (fun k => ?_) (go false ⟨(fun e => by cases e), (fun e => by omega)⟩)
          simp only [parapetlaw9_PercentRunes.j1, Option.bind_some]
          rw [if_neg q1]; rfl
      by_cases c1 : u < 128
      · refine Ev.step (f := fun k => parapetlaw9_PercentRunes.j1 k u cut [u]) (fun k => ?_) (fin [u] (by simp) (by simp) (fun ok hok => ?_) (fun k q1 q2 => by simp at q2; omega))
        · simp only [parapetlaw9_PercentRunes.j0]
          rw [if_neg (by simp), if_pos c1, show u % 256 = u by omega]
        · have : ok = true := hok.2 ⟨by omega, by omega⟩
          subst this
          refine (short_valid [u] (by intro x hx; simp at hx; omega) (by simp)).1 ?_
          show runeLen 1 u 0 0 0 = 1
          unfold runeLen; rw [if_pos c1]
      · by_cases c2 : u < 2048
        · have e : ([(Go.bits .or .i64 192 (u / 64)) % 256, (Go.bits .or .i64 128 (Go.bits .and .i64 u 63)) % 256] : List Int) = [192 + u / 64, 128 + u % 64] := by
            rw [or_and63 (by omega) (by omega), or_lead 6 (by omega) (by omega) (by decide) (by omega) (by omega) (by omega) (by omega)]
          refine Ev.step (f := fun k => parapetlaw9_PercentRunes.j1 k u cut [192 + u / 64, 128 + u % 64]) (fun k => ?_) (fin _ (by simp) (by simp) (fun ok hok => ?_) (fun k q1 q2 => ?_))
          · simp only [parapetlaw9_PercentRunes.j0]
            rw [if_neg (by simp), if_neg c1, if_pos c2, e]
          · have : ok = true := hok.2 ⟨by omega, by omega⟩
            subst this
            refine (short_valid _ (by intro x hx; simp at hx; omega) (by simp)).1 ?_
            show runeLen 2 (192 + u / 64) (128 + u % 64) 0 0 = 2
            unfold runeLen; rw [if_neg (by omega), if_neg (by omega), if_pos (by omega), if_pos (by omega)]
          · have : k = 1 := by simp at q2; omega
            subst this
            refine (short_valid [192 + u / 64] (by intro x hx; simp at hx; omega) (by simp)).2 ?_
            show runeLen 1 (192 + u / 64) 0 0 0 = 0
            unfold runeLen; rw [if_neg (by omega), if_neg (by omega), if_pos (by omega), if_neg (by omega)]
        · by_cases c3 : u < 65536
          · have e : ([(Go.bits .or .i64 224 (u / 4096)) % 256, (Go.bits .or .i64 128 (Go.bits .and .i64 (u / 64) 63)) % 256, (Go.bits .or .i64 128 (Go.bits .and .i64 u 63)) % 256] : List Int) = [224 + u / 4096, 128 + u / 64 % 64, 128 + u % 64] := by
              rw [or_and63 (by omega) (by omega), or_and63 (by omega) (by omega), or_lead 4 (by omega) (by omega) (by decide) (by omega) (by omega) (by omega) (by omega)]
            refine Ev.step (f := fun k => parapetlaw9_PercentRunes.j1 k u cut [224 + u / 4096, 128 + u / 64 % 64, 128 + u % 64]) (fun k => ?_) (fin _ (by simp) (by simp) (fun ok hok => ?_) (fun k q1 q2 => ?_))
            · simp only [parapetlaw9_PercentRunes.j0]
              rw [if_neg (by simp), if_neg c1, if_neg c2, if_pos c3, e]
            · have hv := short_valid [224 + u / 4096, 128 + u / 64 % 64, 128 + u % 64] (by intro x hx; simp at hx; omega) (by simp)
              have hr : runeLen 3 (224 + u / 4096) (128 + u / 64 % 64) (128 + u % 64) 0 = if u < 55296 ∨ u > 57343 then 3 else 0 := by
                unfold runeLen
                rw [if_neg (by omega), if_neg (by omega), if_neg (by omega), if_pos (by omega)]
                by_cases q : u < 55296 ∨ u > 57343
                · rw [if_pos q, if_pos (by omega)]
                · rw [if_neg q, if_neg (by omega)]
              by_cases q : u < 55296 ∨ u > 57343
              · rw [hv.1 (hr.trans (by rw [if_pos q]; rfl)), hok.2 ⟨by omega, q⟩]
              · rw [hv.2 (hr.trans (by rw [if_neg q]))]
                cases ok with
                | false => rfl
                | true => exact absurd (hok.1 rfl).2 q
            · have hk : k = 1 ∨ k = 2 := by simp at q2; omega
              rcases hk with rfl | rfl
              · refine (short_valid [224 + u / 4096] (by intro x hx; simp at hx; omega) (by simp)).2 ?_
                show runeLen 1 (224 + u / 4096) 0 0 0 = 0
                unfold runeLen; rw [if_neg (by omega), if_neg (by omega), if_neg (by omega), if_pos (by omega), if_neg (by omega)]
              · refine (short_valid [224 + u / 4096, 128 + u / 64 % 64] (by intro x hx; simp at hx; omega) (by simp)).2 ?_
                show runeLen 2 (224 + u / 4096) (128 + u / 64 % 64) 0 0 = 0
                unfold runeLen; rw [if_neg (by omega), if_neg (by omega), if_neg (by omega), if_pos (by omega), if_neg (by omega)]
          · have e : ([(Go.bits .or .i64 240 (u / 262144)) % 256, (Go.bits .or .i64 128 (Go.bits .and .i64 (u / 4096) 63)) % 256, (Go.bits .or .i64 128 (Go.bits .and .i64 (u / 64) 63)) % 256, (Go.bits .or .i64 128 (Go.bits .and .i64 u 63)) % 256] : List Int) = [240 + u / 262144, 128 + u / 4096 % 64, 128 + u / 64 % 64, 128 + u % 64] := by
              rw [or_and63 (by omega) (by omega), or_and63 (by omega) (by omega), or_and63 (by omega) (by omega), or_lead 3 (by omega) (by omega) (by decide) (by omega) (by omega) (by omega) (by omega)]
            refine Ev.step (f := fun k => parapetlaw9_PercentRunes.j1 k u cut [240 + u / 262144, 128 + u / 4096 % 64, 128 + u / 64 % 64, 128 + u % 64]) (fun k => ?_) (fin _ (by simp) (by simp) (fun ok hok => ?_) (fun k q1 q2 => ?_))
            · simp only [parapetlaw9_PercentRunes.j0]
              rw [if_neg (by simp), if_neg c1, if_neg c2, if_neg c3, e]
            · have hv := short_valid [240 + u / 262144, 128 + u / 4096 % 64, 128 + u / 64 % 64, 128 + u % 64] (by intro x hx; simp at hx; omega) (by simp)
              have hr : runeLen 4 (240 + u / 262144) (128 + u / 4096 % 64) (128 + u / 64 % 64) (128 + u % 64) = if u ≤ 1114111 then 4 else 0 := by
                unfold runeLen
                rw [if_neg (by omega), if_neg (by omega), if_neg (by omega), if_neg (by omega)]
                by_cases q : u ≤ 1114111
                · rw [if_pos q, if_pos (by omega), if_pos (by omega)]
                · rw [if_neg q]
                  by_cases q5 : 240 + u / 262144 < 245
                  · rw [if_pos q5, if_neg (by omega)]
                  · rw [if_neg q5]
              by_cases q : u ≤ 1114111
              · rw [hv.1 (hr.trans (by rw [if_pos q]; rfl)), hok.2 ⟨q, by omega⟩]
              · rw [hv.2 (hr.trans (by rw [if_neg q]))]
                cases ok with
                | false => rfl
                | true => exact absurd (hok.1 rfl).1 q
            · have hk : k = 1 ∨ k = 2 ∨ k = 3 := by simp at q2; omega
              have part : ∀ n b1 b2 : Int, n < 4 → runeLen n (240 + u / 262144) b1 b2 0 = 0 := by
                intro n b1 b2 hn
                unfold runeLen; rw [if_neg (by omega), if_neg (by omega), if_neg (by omega), if_neg (by omega)]
                by_cases q5 : 240 + u / 262144 < 245
                · rw [if_pos q5, if_neg (by omega)]
                · rw [if_neg q5]
              rcases hk with rfl | rfl | rfl
              · exact (short_valid [240 + u / 262144] (by intro x hx; simp at hx; omega) (by simp)).2 (part 1 0 0 (by omega))
              · exact (short_valid [240 + u / 262144, 128 + u / 4096 % 64] (by intro x hx; simp at hx; omega) (by simp)).2 (part 2 _ 0 (by omega))
              · exact (short_valid [240 + u / 262144, 128 + u / 4096 % 64, 128 + u / 64 % 64] (by intro x hx; simp at hx; omega) (by simp)).2 (part 3 _ _ (by omega))
end Go.Proofs.YtaogcafknbfkmaaDoor.Pu
