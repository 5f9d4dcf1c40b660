/- 4 texts of the proof, put together, less what is not used; what a tool printed stands among them. -/
import Derived.KernelRfl
import Derived.Test.YtngedmioeodmfaaDoorMItems9
namespace Go.Proofs.YtngedmioeodmfaaDoor.Pu
open Go.RowKit Go.Proofs.YtngedmioeodmfaaDoor.Pr Go.Proofs.YtngedmioeodmfaaDoorW.PrintWords Go.Proofs.YtngedmioeodmfaaDoor.Lx
open Go.Proofs.YtngedmioeodmfaaDoor.Ps hiding Tk
set_option linter.unusedVariables false
set_option linter.unusedSimpArgs false
theorem text_le {t : Tk} {bs : List Int} {a : Nat} {rest : List Int} (h : bs.drop a = wof t ++ rest) : t.f2.size ≤ bs.length := by
  have h1 := congrArg List.length h
  rw [List.length_drop, List.length_append] at h1
  have h2 : t.f2.size ≤ (wof t).length := by
    unfold wof
    split
    · have := escL_ge (bytesOf t.f2)
      rw [bytesOf_length] at this
      simp only [List.length_cons, List.length_append]; omega
    · rw [bytesOf_length]; exact Nat.le_refl _
  omega
theorem toks_len {x : ByteArray} {ts : List Tk} (h : sm 0 .sk [] (bytesOf x) = .good ts) : ts.length ≤ x.size := by
  have := (placed x ts h).len (Nat.zero_le _)
  rw [bytesOf_length] at this; omega
theorem toks_text {x : ByteArray} {ts : List Tk} (h : sm 0 .sk [] (bytesOf x) = .good ts) : ∀ t ∈ ts, t.f2.size ≤ x.size := by
  intro t ht
  obtain ⟨_, a, rest, hd⟩ := (placed x ts h).all t ht
  have := text_le hd
  rw [bytesOf_length] at this; exact this
theorem okTk_tokM (x : ByteArray) : okTk (tokM x).1 = true := by
  rcases tokM_cases x with ⟨ts, h, hs, hv, hl⟩ | ⟨j, h, hj⟩ | ⟨h, hl⟩
  · rw [h]
    exact okTk_iff.2 ⟨by show ts.length ≤ 1000000; have := toks_len hs; omega, fun t ht => by have := toks_text hs t ht; omega⟩
  · rw [h]; rfl
  · rw [h]; rfl
/-- What parse.Policy answers. -/
def polA (x : ByteArray) : Except (Int × Int) Pst := polT x.size (tokM x)
theorem pol_ev (x : ByteArray) (hx : x.size ≤ 1000000) : Ev (fun k => parse_Policy.f k x) (polRes (polA x)) := by
  unfold parse_Policy.f
  simp only [if_pos hx]
  refine Ev.bind (tokens_ev x) ?_
  simp only [okTk_tokM, if_true]
  exact Ev.const fun k => rfl
/-- Of a text with tokens. -/
theorem polA_good {x : ByteArray} (h : x.size ≤ 3000) (hv : V (bytesOf x)) {ts : List Tk} (hs : rs 0 .sk [] (bytesOf x) = .go .sk ts) : polA x = polP ts x.size := by
  have h2 : sm 0 .sk [] (bytesOf x) = .good ts := by rw [sm_rs, hs]; rfl
  rw [polA, tokM_of x h hv h2]
  rfl
def awakeT : ByteArray := ⟨#[97, 108, 108, 111, 119, 32, 105, 102, 32, 110, 111, 116, 32, 104, 111, 115, 116, 32, 34, 97, 34, 32, 97, 110, 100, 32, 40, 99, 114, 101, 100, 115, 32, 111, 114, 32, 99, 111, 114, 115, 41, 59]⟩
theorem awake_ev : Ev (fun k => parapetlaw20_awake.f k) true := by
  unfold parapetlaw20_awake.f
  refine Ev.bind (pol_ev awakeT (by decide)) ?_
  have h : polRes (polA awakeT) = ([], [], wBlock, [⟨true, ⟨5, ⟨⟨#[]⟩, ⟨#[]⟩⟩, [⟨4, ⟨⟨#[]⟩, ⟨#[]⟩⟩, [⟨3, ⟨wHost, ⟨#[97]⟩⟩, []⟩]⟩, ⟨6, ⟨⟨#[]⟩, ⟨#[]⟩⟩, [⟨3, ⟨wCreds, ⟨#[]⟩⟩, []⟩, ⟨3, ⟨wCors, ⟨#[]⟩⟩, []⟩]⟩]⟩⟩], false, 0, 0) := by kernel_rfl
  rw [h]
  refine Ev.const fun k => ?_
  kernel_rfl
end Go.Proofs.YtngedmioeodmfaaDoor.Pu
namespace Go.Proofs.YtngedmioeodmfaaDoor.Pu
open Go.RowKit Go.Proofs.YtngedmioeodmfaaDoor.Pr Go.Proofs.YtngedmioeodmfaaDoorW.PrintWords Go.Proofs.YtngedmioeodmfaaDoor.Lx
open Go.Proofs.YtngedmioeodmfaaDoor.Ps hiding Tk
set_option linter.unusedVariables false
set_option linter.unusedSimpArgs false
/-- A text whose tokens end with it. -/
def Lx1 (l : List Int) (ts : List Tk) : Prop := rs 0 .sk [] l = .go .sk ts
theorem Lx1.nil : Lx1 [] [] := rfl
theorem Lx1.app {a b : List Int} {ta tb : List Tk} (ha : Lx1 a ta) (hb : Lx1 b tb) : Lx1 (a ++ b) (ta ++ tb.map (upT a.length)) := by
  unfold Lx1 at *
  rw [rs_app_go ha b, Nat.zero_add]
  have h := rs_up a.length ta b 0 .sk []
  rw [hb] at h
  simpa [upS, upO] using h
theorem key_up (n : Nat) (ts : List Tk) : (ts.map (upT n)).map key = ts.map key := by
  rw [List.map_map]; exact List.map_congr_left (fun t _ => rfl)
abbrev Ky := Int × ByteArray
/-- From place p on stand tokens of these keys. -/
def KA (T : List Tk) (p : Nat) (ws : List Ky) : Prop := ws <+: (T.drop p).map key
theorem KA.head {T : List Tk} {p : Nat} {w : Ky} {ws : List Ky} (h : KA T p (w :: ws)) (e : Int) : p < T.length ∧ (nxt T e p).f0 = w.1 ∧ (nxt T e p).f2 = w.2 ∧ KA T (p + 1) ws := by
  obtain ⟨rest, h⟩ := h
  have hp : p < T.length := by
    apply Classical.byContradiction
    intro hn
    rw [List.drop_eq_nil_of_le (by omega)] at h
    cases h
  rw [List.drop_eq_getElem_cons hp, List.map_cons, List.cons_append] at h
  injection h with h1 h2
  refine ⟨hp, ?_, ?_, ⟨rest, h2⟩⟩
  · rw [nxt, dif_pos hp, h1]; rfl
  · rw [nxt, dif_pos hp, h1]; rfl
theorem KA.weak {T : List Tk} {p : Nat} {ws vs : List Ky} (h : KA T p (ws ++ vs)) : KA T p ws := List.IsPrefix.trans ⟨vs, rfl⟩ h
theorem KA.drop {T : List Tk} {p : Nat} : ∀ {ws vs : List Ky}, KA T p (ws ++ vs) → KA T (p + ws.length) vs
  | [], vs, h => h
  | w :: ws, vs, h => by
    have h2 := (KA.head (w := w) (ws := ws ++ vs) h 0).2.2.2
    have := KA.drop h2
    rw [List.length_cons]
    rw [show p + (ws.length + 1) = p + 1 + ws.length by omega]; exact this
section
variable {T : List Tk} {e : Int} {p : Nat} {ws : List Ky}
theorem KA.is {k : Int} {t : ByteArray} (h : KA T p ((k, t) :: ws)) (l : List ByteArray) : isP T e l p = (decide (k = 1) && memB t l) := by
  obtain ⟨_, h1, h2, _⟩ := h.head e
  rw [isP, h1, h2]
theorem KA.take {k : Int} {t : ByteArray} (h : KA T p ((k, t) :: ws)) : takeP T e k p = .ok (t, p + 1) := by
  obtain ⟨_, h1, h2, _⟩ := h.head e
  rw [takeP, if_pos h1, h2]
theorem KA.next {w : Ky} (h : KA T p (w :: ws)) : KA T (p + 1) ws := (h.head 0).2.2.2
theorem KA.word {t : ByteArray} {l : List ByteArray} (h : KA T p ((1, t) :: ws)) (hm : memB t l = true) : wordP T e l p = .ok (t, p + 1) := by
  rw [wordP, h.is, hm, if_pos (by rfl), h.take]
/-- Kids: one, and no word that goes on. -/
theorem kids_one {one : Nat → Res Cd} {kind : Int} {w : ByteArray} {c : Cd} {q : Nat} (h1 : one p = .ok (c, q)) (h2 : isP T e [w] q = false) : kidsP T e kind w one p = .ok (c, q) := by
  rw [kidsP, h1]
  simp only
  have : kidsL T e one w (T.length + 1 - q) [c] q = .ok ([c], q) := by
    cases T.length + 1 - q with
    | zero => rfl
    | succ f => rw [kidsL, h2]; rfl
  rw [this]
  rfl
theorem or_one {one : Nat → Res Cd} {c : Cd} {q : Nat} (h1 : one p = .ok (c, q)) (h2 : isP T e [wAnd] q = false) (h3 : isP T e [wOr] q = false) : orP T e one p = .ok (c, q) :=
  kids_one (kids_one h1 h2) h3
/-- An atom of one word. -/
def oneAtoms : List ByteArray := [wSame, wTrusted, wCreds, wCors]
def atomC (w : ByteArray) : Cd := if w = wTrue then cond0 1 [] else if w = wFalse then cond0 2 [] else ⟨3, ⟨w, ⟨#[]⟩⟩, []⟩
theorem atom_one {w : ByteArray} (h : KA T p ((1, w) :: ws)) (hw : w ∈ wTrue :: wFalse :: oneAtoms) : atomP T e p = .ok (atomC w, p + 1) := by
  have hm : memB w atomWords = true := by
    simp only [oneAtoms, List.mem_cons, List.not_mem_nil, or_false] at hw
    rcases hw with rfl | rfl | rfl | rfl | rfl | rfl <;> decide +kernel
  rw [atomP, h.word hm]
  simp only [oneAtoms, List.mem_cons, List.not_mem_nil, or_false] at hw
  rcases hw with rfl | rfl | rfl | rfl | rfl | rfl <;> rfl
theorem not_atom {w : ByteArray} (h : KA T p ((1, w) :: ws)) (hw : w ∈ wTrue :: wFalse :: oneAtoms) (n : Nat) : notN T e n p = .ok (atomC w, p + 1) := by
  have h1 : isP T e [wNot] p = false := by
    rw [h.is]
    simp only [oneAtoms, List.mem_cons, List.not_mem_nil, or_false] at hw
    rcases hw with rfl | rfl | rfl | rfl | rfl | rfl <;> decide +kernel
  have h2 : (nxt T e p).f0 ≠ 3 := by rw [(h.head e).2.1]; exact (by decide : (1 : Int) ≠ 3)
  cases n with
  | zero => rw [notN, h1, if_neg (by decide), if_neg h2, atom_one h hw]
  | succ n => rw [notN, h1, if_neg (by decide), if_neg h2, atom_one h hw]
theorem cond_one {w x : ByteArray} (h : KA T p ((1, w) :: (5, x) :: ws)) (hw : w ∈ wTrue :: wFalse :: oneAtoms) : condP T e p = .ok (atomC w, p + 1) :=
  or_one (not_atom h hw 30) (by rw [h.next.is]; rfl) (by rw [h.next.is]; rfl)
/-- An item whose word may stand more than once, where there is room. -/
theorem item_free {st : Pst} {w : ByteArray} (h : KA T p ((1, w) :: ws)) (hw : w ∈ [wCsp, wShare, wAllow, wDeny]) (hi : st.items < 60) : itemP T e st p = itemK T e { st with items := st.items + 1 } w (p + 1) := by
  have h1 : isP T e [wCsp, wShare, wMixed, wDefault, wAllow, wDeny] p = true := by
    rw [h.is]
    simp only [List.mem_cons, List.not_mem_nil, or_false] at hw
    rcases hw with rfl | rfl | rfl | rfl <;> decide +kernel
  have h2 : isP T e [wMixed, wDefault] p = false := by
    rw [h.is]
    simp only [List.mem_cons, List.not_mem_nil, or_false] at hw
    rcases hw with rfl | rfl | rfl | rfl <;> decide +kernel
  rw [itemP_none h1.symm h2.symm, restP, if_neg (by omega), h.take]
theorem item_full {st : Pst} {w : ByteArray} (h : KA T p ((1, w) :: ws)) (hw : w ∈ [wCsp, wShare, wAllow, wDeny]) (hi : st.items = 60) : itemP T e st p = .error (2, (nxt T e p).f1) := by
  have h1 : isP T e [wCsp, wShare, wMixed, wDefault, wAllow, wDeny] p = true := by
    rw [h.is]
    simp only [List.mem_cons, List.not_mem_nil, or_false] at hw
    rcases hw with rfl | rfl | rfl | rfl <;> decide +kernel
  have h2 : isP T e [wMixed, wDefault] p = false := by
    rw [h.is]
    simp only [List.mem_cons, List.not_mem_nil, or_false] at hw
    rcases hw with rfl | rfl | rfl | rfl <;> decide +kernel
  rw [itemP_none h1.symm h2.symm, restP, if_pos (by omega)]
theorem met_ahead {w : ByteArray} (h : KA T p ((1, w) :: ws)) (hw : w = wMixed ∨ w = wDefault) : true = isP T e [wCsp, wShare, wMixed, wDefault, wAllow, wDeny] p ∧ true = isP T e [wMixed, wDefault] p := by
  constructor
  · rw [h.is]; rcases hw with rfl | rfl <;> decide +kernel
  · rw [h.is]; rcases hw with rfl | rfl <;> decide +kernel
theorem item_once {st : Pst} {w : ByteArray} (h : KA T p ((1, w) :: ws)) (hw : w = wMixed ∨ w = wDefault) (hm : metN st w = 0) (hi : st.items < 60) : itemP T e st p = itemK T e { raise st w with items := st.items + 1 } w (p + 1) := by
  obtain ⟨h1, h2⟩ := met_ahead (e := e) h hw
  have hx : (nxt T e p).f2 = w := (h.head e).2.2.1
  obtain ⟨k0, p0, wd⟩ : ∃ k0 p0, (⟨k0, p0, w⟩ : Tk) = nxt T e p := ⟨_, _, by rw [← hx]⟩
  have hri : (raise st w).items = st.items := by unfold raise; split <;> rfl
  rw [itemP_once h1 h2 wd hw, if_neg (by omega), restP, hri, if_neg (by omega), h.take]
theorem item_twice {st : Pst} {w : ByteArray} (h : KA T p ((1, w) :: ws)) (hw : w = wMixed ∨ w = wDefault) (hm : 0 < metN st w) : itemP T e st p = .error (10, (nxt T e p).f1) := by
  obtain ⟨h1, h2⟩ := met_ahead (e := e) h hw
  have hx : (nxt T e p).f2 = w := (h.head e).2.2.1
  have he : (⟨(nxt T e p).f0, (nxt T e p).f1, w⟩ : Tk) = nxt T e p := by rw [← hx]
  rw [itemP_once h1 h2 he hw, if_pos (by omega)]
end
end Go.Proofs.YtngedmioeodmfaaDoor.Pu
namespace Go.Proofs.YtngedmioeodmfaaDoor.Pu
open Go.RowKit Go.Proofs.YtngedmioeodmfaaDoor.Pr Go.Proofs.YtngedmioeodmfaaDoorW.PrintWords Go.Proofs.YtngedmioeodmfaaDoor.Lx
open Go.Proofs.YtngedmioeodmfaaDoor.Ps hiding Tk
set_option linter.unusedVariables false
set_option linter.unusedSimpArgs false
def repL : Nat → List Int → List Int
  | 0, _ => []
  | n + 1, l => repL n l ++ l
def repT (L : Nat) (t : List Tk) : Nat → List Tk
  | 0 => []
  | n + 1 => repT L t n ++ t.map (upT (n * L))
theorem repL_len (l : List Int) : ∀ n, (repL n l).length = n * l.length
  | 0 => by simp [repL]
  | n + 1 => by rw [repL, List.length_append, repL_len l n, Nat.succ_mul]
theorem repT_len (L : Nat) (t : List Tk) : ∀ n, (repT L t n).length = n * t.length
  | 0 => by simp [repT]
  | n + 1 => by rw [repT, List.length_append, repT_len L t n, List.length_map, Nat.succ_mul]
theorem rep_lx {l : List Int} {t : List Tk} (h : Lx1 l t) : ∀ n, Lx1 (repL n l) (repT l.length t n)
  | 0 => Lx1.nil
  | n + 1 => by
    have := (rep_lx h n).app h
    rw [repL_len] at this
    exact this
theorem rep_V {l : List Int} (h : V l) : ∀ n, V (repL n l)
  | 0 => V_nil
  | n + 1 => V_app (rep_V h n) h
theorem rep_key (L : Nat) (t : List Tk) : ∀ n, (repT L t n).map key = (List.replicate n (t.map key)).flatten
  | 0 => rfl
  | n + 1 => by rw [repT, List.map_append, key_up, rep_key L t n, List.replicate_succ']; simp
theorem rep_at (L : Nat) (t : List Tk) : ∀ n i j, i < n → j < t.length → (repT L t n)[i * t.length + j]? = (t[j]?).map (upT (i * L))
  | n + 1, i, j, hi, hj => by
    rw [repT]
    by_cases h : i = n
    · subst h
      rw [List.getElem?_append_right (by rw [repT_len]; omega), repT_len, Nat.add_sub_cancel_left, List.getElem?_map]
    · have : i * t.length + j < n * t.length := by
        have : (i + 1) * t.length ≤ n * t.length := Nat.mul_le_mul_right _ (by omega)
        rw [Nat.succ_mul] at this; omega
      rw [List.getElem?_append_left (by rw [repT_len]; exact this)]
      exact rep_at L t n i j (by omega) hj
/-- Items of these keys, each read by one step. -/
structure Free (ks : List Ky) (semi : ByteArray) (stp : Pst → Pst) : Prop where
  h : ∀ (T : List Tk) (e : Int) (p : Nat) (ws : List Ky) (st : Pst), KA T p (ks ++ (5, semi) :: ws) → st.items < 60 → itemP T e st p = .ok (stp st, p + ks.length)
  full : ∀ (T : List Tk) (e : Int) (p : Nat) (ws : List Ky) (st : Pst), KA T p (ks ++ (5, semi) :: ws) → st.items = 60 → itemP T e st p = .error (2, (nxt T e p).f1)
  one : ks ≠ []
  hi : ∀ st, (stp st).items = st.items + 1
def iter (stp : Pst → Pst) : Nat → Pst → Pst
  | 0, st => st
  | n + 1, st => iter stp n (stp st)
theorem KA.len {T : List Tk} {p : Nat} {ws : List Ky} (h : KA T p ws) : ws.length ≤ T.length - p := by
  have := h.length_le
  rw [List.length_map, List.length_drop] at this; exact this
theorem items_step {T : List Tk} {e : Int} {f p q : Nat} {st st' : Pst} {semi : ByteArray} {ws : List Ky} (hp : p < T.length) (h : itemP T e st p = .ok (st', q)) (hk : KA T q ((5, semi) :: ws)) : itemsP T e (f + 1) st p = itemsP T e f st' (q + 1) := by
  rw [itemsP_succ hp, h]
  simp only [itemsK]
  rw [hk.take]
  rfl
theorem items_rep {ks : List Ky} {semi : ByteArray} {stp : Pst → Pst} (F : Free ks semi stp) (T : List Tk) (e : Int) : ∀ (m : Nat) (vs : List Ky) (p f : Nat) (st : Pst), KA T p ((List.replicate m (ks ++ [(5, semi)])).flatten ++ vs) → st.items + m ≤ 60 →
    itemsP T e (f + m) st p = itemsP T e f (iter stp m st) (p + m * (ks.length + 1))
  | 0, vs, p, f, st, h, hi => by simp [iter]
  | m + 1, vs, p, f, st, h, hi => by
    have h1 : KA T p (ks ++ (5, semi) :: ((List.replicate m (ks ++ [(5, semi)])).flatten ++ vs)) := by
      rw [List.replicate_succ, List.flatten_cons] at h
      simpa using h
    have hp : p < T.length := by
      have := h1.len
      simp only [List.length_append, List.length_cons] at this; omega
    rw [show f + (m + 1) = (f + m) + 1 by omega, items_step hp (F.h T e p _ st h1 (by omega)) h1.drop]
    have h2 := h1.drop.next
    rw [items_rep F T e m vs _ f _ h2 (by rw [F.hi]; omega), iter]
    congr 1
    rw [Nat.succ_mul]; omega
theorem items_end {T : List Tk} {e : Int} {f p : Nat} {st : Pst} (h : T.length ≤ p) : itemsP T e f st p = .ok st := by
  cases f with
  | zero => rfl
  | succ f => rw [itemsP, if_neg (by omega)]
theorem items_err {T : List Tk} {e : Int} {f p : Nat} {st : Pst} {x : Int × Int} (hp : p < T.length) (h : itemP T e st p = .error x) : itemsP T e (f + 1) st p = .error x := by
  rw [itemsP_succ hp, h]; rfl
/-- A text of n such items. -/
theorem rep_pol {l : List Int} {t : List Tk} (hl : Lx1 l t) (hv : V l) {ks : List Ky} {semi : ByteArray} {stp : Pst → Pst} (F : Free ks semi stp) (hk : t.map key = ks ++ [(5, semi)]) (n : Nat) (x : ByteArray) (hx : bytesOf x = repL n l) (hs : n * l.length ≤ 3000) (h0 : ∀ u, t[0]? = some u → u.f1 = 0) :
    polA x = if n ≤ 60 then .ok (iter stp n pst0) else .error (2, 60 * (l.length : Int)) := by
  have hsz : x.size = n * l.length := by rw [← bytesOf_length, hx, repL_len]
  have htl : t.length = ks.length + 1 := by
    have := congrArg List.length hk
    rw [List.length_map, List.length_append] at this; simpa using this
  rw [polA_good (by omega) (by rw [hx]; exact rep_V hv n) (by rw [hx]; exact rep_lx hl n), polP]
  have hT : (repT l.length t n).map key = (List.replicate n (ks ++ [(5, semi)])).flatten := by rw [rep_key, hk]
  have hln := repT_len l.length t n
  by_cases hn : n ≤ 60
  · rw [if_pos hn]
    have hk0 : KA (repT l.length t n) 0 ((List.replicate n (ks ++ [(5, semi)])).flatten ++ []) := by
      rw [KA, List.drop_zero, hT, List.append_nil]; exact List.prefix_refl _
    have hge : n ≤ (repT l.length t n).length + 1 := by
      rw [hln, htl]
      have : n * 1 ≤ n * (ks.length + 1) := Nat.mul_le_mul_left _ (by omega)
      omega
    obtain ⟨d, hd⟩ : ∃ d, (repT l.length t n).length + 1 = d + n := ⟨_, (Nat.sub_add_cancel hge).symm⟩
    rw [hd, items_rep F _ _ n [] 0 d pst0 hk0 (by simp [pst0]; omega)]
    exact items_end (by rw [hln, htl]; omega)
  · rw [if_neg hn]
    obtain ⟨m, rfl⟩ : ∃ m, n = 60 + (m + 1) := ⟨n - 61, by omega⟩
    have hk0 : KA (repT l.length t (60 + (m + 1))) 0 ((List.replicate 60 (ks ++ [(5, semi)])).flatten ++ (List.replicate (m + 1) (ks ++ [(5, semi)])).flatten) := by
      rw [KA, List.drop_zero, hT, show List.replicate (60 + (m + 1)) (ks ++ [((5 : Int), semi)]) = List.replicate 60 (ks ++ [((5 : Int), semi)]) ++ List.replicate (m + 1) (ks ++ [((5 : Int), semi)]) from (List.replicate_append_replicate).symm, List.flatten_append]; exact List.prefix_refl _
    have hge : 61 ≤ (repT l.length t (60 + (m + 1))).length + 1 := by
      rw [hln, htl]
      have : (60 + (m + 1)) * 1 ≤ (60 + (m + 1)) * (ks.length + 1) := Nat.mul_le_mul_left _ (by omega)
      omega
    obtain ⟨d, hd⟩ : ∃ d, (repT l.length t (60 + (m + 1))).length + 1 = (d + 1) + 60 := ⟨_, (by omega : _ = ((repT l.length t (60 + (m + 1))).length + 1 - 61 + 1) + 60)⟩
    rw [hd, items_rep F _ _ 60 _ 0 (d + 1) pst0 hk0 (by simp [pst0])]
    have h1 := hk0.drop
    have hfl : ∀ n : Nat, (List.replicate n (ks ++ [((5 : Int), semi)])).flatten.length = n * (ks.length + 1) := fun n => by simp
    obtain ⟨P, hP⟩ : ∃ P, P = 60 * (ks.length + 1) := ⟨_, rfl⟩
    rw [hfl, Nat.zero_add, ← hP] at h1
    rw [Nat.zero_add, ← hP]
    rw [List.replicate_succ, List.flatten_cons] at h1
    have h2 : KA (repT l.length t (60 + (m + 1))) P (ks ++ (5, semi) :: (List.replicate m (ks ++ [(5, semi)])).flatten) := by simpa using h1
    have hit : ∀ k st, (iter stp k st).items = st.items + k := by
      intro k
      induction k with
      | zero => intro st; rfl
      | succ k ih => intro st; rw [iter, ih, F.hi]; omega
    have hp : P < (repT l.length t (60 + (m + 1))).length := by
      have := h2.len
      simp only [List.length_append, List.length_cons] at this; omega
    rw [items_err hp (F.full _ _ _ _ _ h2 (by rw [hit]; rfl))]
    have hat := rep_at l.length t (60 + (m + 1)) 60 0 (by omega) (by omega)
    rw [htl, ← hP] at hat
    simp only [Nat.add_zero] at hat
    congr 2
    rw [nxt, dif_pos hp]
    have hg : (repT l.length t (60 + (m + 1)))[P]? = some ((repT l.length t (60 + (m + 1)))[P]) := List.getElem?_eq_getElem hp
    have h0t : t[0]? = some (t[0]'(by omega)) := List.getElem?_eq_getElem (by omega)
    rw [h0t] at hat
    rw [hg] at hat
    simp only [Option.map_some] at hat
    have hat := Option.some.inj hat
    rw [hat]
    show (t[0]'(by omega)).f1 + ((60 * l.length : Nat) : Int) = _
    rw [h0 _ h0t]; omega
end Go.Proofs.YtngedmioeodmfaaDoor.Pu
namespace Go.Proofs.YtngedmioeodmfaaDoor.Pu
open Go.RowKit Go.Proofs.YtngedmioeodmfaaDoor.Pr Go.Proofs.YtngedmioeodmfaaDoorW.PrintWords Go.Proofs.YtngedmioeodmfaaDoor.Lx
open Go.Proofs.YtngedmioeodmfaaDoor.Ps hiding Tk
set_option linter.unusedVariables false
set_option linter.unusedSimpArgs false
def I0 : ByteArray := ⟨#[97, 108, 108, 111, 119, 32, 105, 102, 32, 116, 114, 117, 101, 59]⟩
def I1 : ByteArray := ⟨#[109, 105, 120, 101, 100, 32, 97, 108, 108, 111, 119, 59]⟩
def I2 : ByteArray := ⟨#[100, 101, 102, 97, 117, 108, 116, 32, 97, 108, 108, 111, 119, 59]⟩
def I3 : ByteArray := ⟨#[99, 115, 112, 32, 34, 120, 34, 59]⟩
def semi : ByteArray := ⟨#[59]⟩
theorem lx0 : Lx1 (bytesOf I0) [⟨1, 0, wAllow⟩, ⟨1, 6, wIf⟩, ⟨1, 9, wTrue⟩, ⟨5, 13, semi⟩] := by unfold Lx1; kernel_rfl
theorem lx1 : Lx1 (bytesOf I1) [⟨1, 0, wMixed⟩, ⟨1, 6, wAllow⟩, ⟨5, 11, semi⟩] := by unfold Lx1; kernel_rfl
theorem lx2 : Lx1 (bytesOf I2) [⟨1, 0, wDefault⟩, ⟨1, 8, wAllow⟩, ⟨5, 13, semi⟩] := by unfold Lx1; kernel_rfl
theorem lx3 : Lx1 (bytesOf I3) [⟨1, 0, wCsp⟩, ⟨2, 4, ⟨#[120]⟩⟩, ⟨5, 7, semi⟩] := by unfold Lx1; kernel_rfl
theorem v0 : V (bytesOf I0) := V_ascii _ (by decide +kernel)
theorem v1 : V (bytesOf I1) := V_ascii _ (by decide +kernel)
theorem v2 : V (bytesOf I2) := V_ascii _ (by decide +kernel)
theorem v3 : V (bytesOf I3) := V_ascii _ (by decide +kernel)
def stp0 (st : Pst) : Pst := { st with items := st.items + 1, rules := st.rules ++ [⟨true, cond0 1 []⟩] }
def stp3 (st : Pst) : Pst := { st with items := st.items + 1, csp := st.csp ++ [⟨#[120]⟩] }
theorem free0 : Free [(1, wAllow), (1, wIf), (1, wTrue)] semi stp0 where
  h := fun T e p ws st h hi => by
    have h : KA T p ((1, wAllow) :: (1, wIf) :: (1, wTrue) :: (5, semi) :: ws) := h
    rw [item_free h (by simp) hi, itemK_rule (by decide) (by decide) (by decide) (by decide), h.next.word (by decide)]
    simp only [ifK]
    rw [cond_one h.next.next (by simp)]
    rfl
  full := fun T e p ws st h hi => item_full (w := wAllow) (ws := (1, wIf) :: (1, wTrue) :: (5, semi) :: ws) h (by simp) hi
  one := by simp
  hi := fun _ => rfl
theorem free3 : Free [(1, wCsp), (2, ⟨#[120]⟩)] semi stp3 where
  h := fun T e p ws st h hi => by
    have h : KA T p ((1, wCsp) :: (2, ⟨#[120]⟩) :: (5, semi) :: ws) := h
    rw [item_free h (by simp) hi, itemK_csp rfl, h.next.take]
    rfl
  full := fun T e p ws st h hi => item_full (w := wCsp) (ws := (2, ⟨#[120]⟩) :: (5, semi) :: ws) h (by simp) hi
  one := by simp
  hi := fun _ => rfl
theorem iter0 : ∀ n st, iter stp0 n st = { st with items := st.items + n, rules := st.rules ++ List.replicate n ⟨true, cond0 1 []⟩ }
  | 0, st => by simp [iter]
  | n + 1, st => by
    rw [iter, iter0 n]
    simp only [stp0, List.replicate_succ, List.append_assoc, List.singleton_append]
    congr 1; omega
theorem iter3 : ∀ n st, iter stp3 n st = { st with items := st.items + n, csp := st.csp ++ List.replicate n ⟨#[120]⟩ }
  | 0, st => by simp [iter]
  | n + 1, st => by
    rw [iter, iter3 n]
    simp only [stp3, List.replicate_succ, List.append_assoc, List.singleton_append]
    congr 1; omega
/-- An item that may stand once. -/
theorem once_pol {l : List Int} {t : List Tk} (hl : Lx1 l t) (hv : V l) {w a : ByteArray} (hk : t.map key = [(1, w), (1, a), (5, semi)]) (hw : w = wMixed ∨ w = wDefault) (stp : Pst)
    (hst : ∀ (T : List Tk) (e : Int) (p : Nat) (ws : List Ky), KA T p ((1, w) :: (1, a) :: (5, semi) :: ws) → itemP T e pst0 p = .ok (stp, p + 2)) (hm : 0 < metN stp w)
    (n : Nat) (x : ByteArray) (hx : bytesOf x = repL n l) (hs : n * l.length ≤ 3000) (h0 : ∀ u, t[0]? = some u → u.f1 = 0) :
    polA x = if n = 0 then .ok pst0 else if n = 1 then .ok stp else .error (10, (l.length : Int)) := by
  have hsz : x.size = n * l.length := by rw [← bytesOf_length, hx, repL_len]
  have htl : t.length = 3 := by
    have := congrArg List.length hk
    rw [List.length_map] at this; simpa using this
  rw [polA_good (by omega) (by rw [hx]; exact rep_V hv n) (by rw [hx]; exact rep_lx hl n), polP]
  have hT := rep_key l.length t n
  have hln := repT_len l.length t n
  rw [hk] at hT
  rw [htl] at hln
  cases n with
  | zero => rw [if_pos rfl]; exact items_end (by rw [hln]; omega)
  | succ n =>
    rw [if_neg (by omega)]
    have h1 : KA (repT l.length t (n + 1)) 0 ((1, w) :: (1, a) :: (5, semi) :: (List.replicate n [((1 : Int), w), (1, a), (5, semi)]).flatten) := by
      rw [KA, List.drop_zero, hT, List.replicate_succ, List.flatten_cons]; exact List.prefix_refl _
    have hp : 0 < (repT l.length t (n + 1)).length := by rw [hln]; omega
    rw [items_step hp (hst _ _ _ _ h1) h1.next.next]
    cases n with
    | zero => rw [if_pos rfl]; exact items_end (by rw [hln]; omega)
    | succ n =>
      rw [if_neg (by omega)]
      have h2 : KA (repT l.length t (n + 2)) 3 ((1, w) :: (1, a) :: (5, semi) :: (List.replicate n [((1 : Int), w), (1, a), (5, semi)]).flatten) := by
        have := h1.next.next.next
        rw [List.replicate_succ, List.flatten_cons] at this
        exact this
      have hp : 3 < (repT l.length t (n + 2)).length := by rw [hln]; omega
      obtain ⟨d, hd⟩ : ∃ d, (repT l.length t (n + 1 + 1)).length = d + 1 := ⟨_, (Nat.sub_add_cancel (by rw [hln]; omega)).symm⟩
      rw [hd]
      rw [items_err hp (item_twice h2 hw hm)]
      have hat := rep_at l.length t (n + 2) 1 0 (by omega) (by omega)
      rw [htl] at hat
      have hg : (repT l.length t (n + 2))[3]? = some ((repT l.length t (n + 2))[3]) := List.getElem?_eq_getElem hp
      have h0t : t[0]? = some (t[0]'(by omega)) := List.getElem?_eq_getElem (by omega)
      rw [h0t] at hat
      have hat2 : some ((repT l.length t (n + 2))[3]) = some (upT (1 * l.length) (t[0]'(by omega))) := hg.symm.trans hat
      have hat2 := Option.some.inj hat2
      congr 2
      rw [nxt, dif_pos hp, hat2]
      show (t[0]'(by omega)).f1 + ((1 * l.length : Nat) : Int) = _
      rw [h0 _ h0t]; omega
def stA : Pst := { pst0 with items := 1, mixed := wAllow, metM := 1 }
def stB : Pst := { pst0 with items := 1, allow := true, metD := 1 }
theorem once1 (T : List Tk) (e : Int) (p : Nat) (ws : List Ky) (h : KA T p ((1, wMixed) :: (1, wAllow) :: (5, semi) :: ws)) : itemP T e pst0 p = .ok (stA, p + 2) := by
  rw [item_once h (.inl rfl) rfl (by decide), itemK_mixed (by decide) (by decide) rfl, h.next.word (by decide)]
  rfl
theorem once2 (T : List Tk) (e : Int) (p : Nat) (ws : List Ky) (h : KA T p ((1, wDefault) :: (1, wAllow) :: (5, semi) :: ws)) : itemP T e pst0 p = .ok (stB, p + 2) := by
  rw [item_once h (.inr rfl) rfl (by decide), itemK_default (by decide) (by decide) (by decide) rfl, h.next.word (by decide)]
  rfl
theorem awake_b : Ev (fun k => (parapetlaw20_awake.f k).bind fun t => some t) true := Ev.bind awake_ev (Ev.const fun _ => rfl)
theorem tl0 : I0.toList = [97, 108, 108, 111, 119, 32, 105, 102, 32, 116, 114, 117, 101, 59] := by decide +kernel
theorem tl1 : I1.toList = [109, 105, 120, 101, 100, 32, 97, 108, 108, 111, 119, 59] := by decide +kernel
theorem tl2 : I2.toList = [100, 101, 102, 97, 117, 108, 116, 32, 97, 108, 108, 111, 119, 59] := by decide +kernel
theorem tl3 : I3.toList = [99, 115, 112, 32, 34, 120, 34, 59] := by decide +kernel
theorem tlB : wBlock.toList = [98, 108, 111, 99, 107] := by decide +kernel
theorem tlA : wAllow.toList = [97, 108, 108, 111, 119] := by decide +kernel
/-- The test behind the loop. -/
def finI (k : Nat) (n : Int) (x5 : ByteArray) (b : List ByteArray × List (S44) × ByteArray × List (S51) × Bool × Int × Int) : Option Bool :=
  if x5.toList = ([109, 105, 120, 101, 100, 32, 97, 108, 108, 111, 119, 59] : List UInt8) then (parapetlaw20_ParseItems.j2 k n x5 true b.1 b.2.1 b.2.2.1 b.2.2.2.1 b.2.2.2.2.1 b.2.2.2.2.2.1 b.2.2.2.2.2.2) else (parapetlaw20_ParseItems.j2 k n x5 (x5.toList == ([100, 101, 102, 97, 117, 108, 116, 32, 97, 108, 108, 111, 119, 59] : List UInt8)) b.1 b.2.1 b.2.2.1 b.2.2.2.1 b.2.2.2.2.1 b.2.2.2.2.2.1 b.2.2.2.2.2.2)
theorem fin0 (n : Nat) (hn : n ≤ 70) : Ev (fun k => finI k n I0 (polRes (if n ≤ 60 then .ok (iter stp0 n pst0) else .error (2, 60 * ((bytesOf I0).length : Int))))) true := by
  unfold finI
  simp only [tl0]
  refine Ev.step (f := fun k => parapetlaw20_ParseItems.j3 k n I0 false false _ _ _ _ _ _ _) (fun k => by simp [parapetlaw20_ParseItems.j2]; rfl) ?_
  refine Ev.step (f := fun k => (parapetlaw20_awake.f k).bind fun t => some t) (fun k => ?_) awake_b
  simp only [parapetlaw20_ParseItems.j3, tl0]
  by_cases h : n ≤ 60
  · have h1 : wrap64 (n : Int) = n := by unfold wrap64; omega
    simp [if_pos h, iter0, polRes, pst0, tlB, h1]
    omega
  · have h1 : (I0.size : Int) = 14 := by decide +kernel
    have h2 : ((bytesOf I0).length : Int) = 14 := by decide +kernel
    have h3 : ((n : Int) > 60) := by omega
    simp [if_neg h, polRes, h1, h2, h3, show wrap64 840 = 840 from w64 (by omega) (by omega)]
theorem fin3 (n : Nat) (hn : n ≤ 70) : Ev (fun k => finI k n I3 (polRes (if n ≤ 60 then .ok (iter stp3 n pst0) else .error (2, 60 * ((bytesOf I3).length : Int))))) true := by
  unfold finI
  simp only [tl3]
  refine Ev.step (f := fun k => parapetlaw20_ParseItems.j3 k n I3 false false _ _ _ _ _ _ _) (fun k => by simp [parapetlaw20_ParseItems.j2]; rfl) ?_
  refine Ev.step (f := fun k => (parapetlaw20_awake.f k).bind fun t => some t) (fun k => ?_) awake_b
  simp only [parapetlaw20_ParseItems.j3, tl3]
  by_cases h : n ≤ 60
  · have h1 : wrap64 (n : Int) = n := by unfold wrap64; omega
    simp [if_pos h, iter3, polRes, pst0, tlB, h1]
    omega
  · have h1 : (I3.size : Int) = 8 := by decide +kernel
    have h2 : ((bytesOf I3).length : Int) = 8 := by decide +kernel
    have h3 : ((n : Int) > 60) := by omega
    simp [if_neg h, polRes, h1, h2, h3, show wrap64 480 = 480 from w64 (by omega) (by omega)]
theorem fin1 (n : Nat) (hn : n ≤ 70) : Ev (fun k => finI k n I1 (polRes (if n = 0 then .ok pst0 else if n = 1 then .ok stA else .error (10, ((bytesOf I1).length : Int))))) true := by
  unfold finI
  simp only [tl1, if_true]
  refine Ev.step (f := fun k => parapetlaw20_ParseItems.j3 k n I1 true (decide ((n : Int) > 1)) _ _ _ _ _ _ _) (fun k => by simp [parapetlaw20_ParseItems.j2]; rfl) ?_
  refine Ev.step (f := fun k => (parapetlaw20_awake.f k).bind fun t => some t) (fun k => ?_) awake_b
  simp only [parapetlaw20_ParseItems.j3, tl1]
  have h1 : (I1.size : Int) = 12 := by decide +kernel
  have h2 : ((bytesOf I1).length : Int) = 12 := by decide +kernel
  rcases n with _ | _ | n
  · simp [polRes, pst0, tlB, show wrap64 0 = 0 from w64 (by omega) (by omega)]
  · simp [polRes, pst0, stA, tlA, show wrap64 0 = 0 from w64 (by omega) (by omega)]
  · have h3 : ((n + 2 : Nat) : Int) > 1 := by omega
    simp [polRes, h1, h2, h3]
    omega
theorem fin2 (n : Nat) (hn : n ≤ 70) : Ev (fun k => finI k n I2 (polRes (if n = 0 then .ok pst0 else if n = 1 then .ok stB else .error (10, ((bytesOf I2).length : Int))))) true := by
  unfold finI
  simp only [tl2]
  refine Ev.step (f := fun k => parapetlaw20_ParseItems.j3 k n I2 true (decide ((n : Int) > 1)) _ _ _ _ _ _ _) (fun k => by simp [parapetlaw20_ParseItems.j2]; rfl) ?_
  refine Ev.step (f := fun k => (parapetlaw20_awake.f k).bind fun t => some t) (fun k => ?_) awake_b
  simp only [parapetlaw20_ParseItems.j3, tl2]
  have h1 : (I2.size : Int) = 14 := by decide +kernel
  have h2 : ((bytesOf I2).length : Int) = 14 := by decide +kernel
  rcases n with _ | _ | n
  · simp [polRes, pst0, tlB, show wrap64 0 = 0 from w64 (by omega) (by omega)]
  · simp [polRes, pst0, stB, tlB, show wrap64 0 = 0 from w64 (by omega) (by omega)]
  · have h3 : ((n + 2 : Nat) : Int) > 1 := by omega
    simp [polRes, h1, h2, h3]
    omega
theorem item_loop (n : Nat) (hn : n ≤ 70) (I : ByteArray) (hI : I.size ≤ 14) (hfin : ∀ x, bytesOf x = repL n (bytesOf I) → Ev (fun k => finI k n I (polRes (polA x))) true) (d : Nat) : ∀ (i : Nat) (x : ByteArray), i ≤ n → n - i ≤ d → bytesOf x = repL i (bytesOf I) → Ev (fun k => parapetlaw20_ParseItems.l0 k n I x i) true := by
  have hsz : ∀ (i : Nat) (x : ByteArray), i ≤ n → bytesOf x = repL i (bytesOf I) → x.size ≤ 980 := by
    intro i x hi hx
    rw [← bytesOf_length, hx, repL_len, bytesOf_length]
    have := Nat.mul_le_mul (show i ≤ 70 by omega) hI
    omega
  induction d with
  | zero =>
    intro i x hi hd hx
    obtain rfl : i = n := by omega
    have hs := hsz i x (Nat.le_refl _) hx
    refine Ev.step (fun k => ?_) (Ev.bind (pol_ev x (by omega)) (f := fun k b => finI k i I b) (hfin x hx))
    rw [parapetlaw20_ParseItems.l0, if_neg (by omega)]
    rfl
  | succ d ih =>
    intro i x hi hd hx
    by_cases hlt : i = n
    · subst hlt
      have hs := hsz i x (Nat.le_refl _) hx
      refine Ev.step (fun k => ?_) (Ev.bind (pol_ev x (by omega)) (f := fun k b => finI k i I b) (hfin x hx))
      rw [parapetlaw20_ParseItems.l0, if_neg (by omega)]
      rfl
    · have hs := hsz i x hi hx
      refine Ev.step (fun k => ?_) (ih (i + 1) (x ++ I) (by omega) (by omega) (by rw [bytesOf_app, hx, repL]))
      rw [parapetlaw20_ParseItems.l0, if_pos (by omega), if_pos (by omega), show wrap64 ((i : Int) + 1) = ((i + 1 : Nat) : Int) by unfold wrap64; omega]
theorem sz0 : (bytesOf I0).length = 14 := by decide +kernel
theorem sz1 : (bytesOf I1).length = 12 := by decide +kernel
theorem sz2 : (bytesOf I2).length = 14 := by decide +kernel
theorem sz3 : (bytesOf I3).length = 8 := by decide +kernel
theorem items_all (n : Nat) (hn : n ≤ 70) (j : Nat) (hj : j < 4) : Ev (fun k => parapetlaw20_ParseItems.l0 k n (rdOf ByteArray.empty [I0, I1, I2, I3] (j : Int)) ⟨#[]⟩ 0) true := by
  have hz : bytesOf (⟨#[]⟩ : ByteArray) = [] := rfl
  obtain rfl | rfl | rfl | rfl : j = 0 ∨ j = 1 ∨ j = 2 ∨ j = 3 := by omega
  · refine item_loop n hn I0 (by decide +kernel) (fun x hx => ?_) n 0 _ (by omega) (by omega) hz
    rw [rep_pol lx0 v0 free0 rfl n x hx (by rw [sz0]; omega) (fun u hu => by cases hu; rfl)]
    exact fin0 n hn
  · refine item_loop n hn I1 (by decide +kernel) (fun x hx => ?_) n 0 _ (by omega) (by omega) hz
    rw [once_pol lx1 v1 rfl (.inl rfl) stA once1 (by decide) n x hx (by rw [sz1]; omega) (fun u hu => by cases hu; rfl)]
    exact fin1 n hn
  · refine item_loop n hn I2 (by decide +kernel) (fun x hx => ?_) n 0 _ (by omega) (by omega) hz
    rw [once_pol lx2 v2 rfl (.inr rfl) stB once2 (by decide) n x hx (by rw [sz2]; omega) (fun u hu => by cases hu; rfl)]
    exact fin2 n hn
  · refine item_loop n hn I3 (by decide +kernel) (fun x hx => ?_) n 0 _ (by omega) (by omega) hz
    rw [rep_pol lx3 v3 free3 rfl n x hx (by rw [sz3]; omega) (fun u hu => by cases hu; rfl)]
    exact fin3 n hn
theorem parseitems : parapetlaw20_ParseItems.Pure := by
  intro a0 a1 h0 h1
  obtain ⟨K, hK⟩ : Ev (fun k => parapetlaw20_ParseItems.f k a0 a1) true := by
    unfold parapetlaw20_ParseItems.f
    by_cases hn : a0 < 0
    · simp only [if_pos hn]
      exact Ev.step (fun k => by simp only [parapetlaw20_ParseItems.j0, if_true]) awake_b
    · simp only [if_neg hn]
      by_cases hm : a0 > 70
      · simp only [decide_eq_true hm]
        exact Ev.step (fun k => by simp only [parapetlaw20_ParseItems.j0, if_true]) awake_b
      · simp only [decide_eq_false hm]
        obtain ⟨n, rfl⟩ : ∃ n : Nat, a0 = n := ⟨a0.toNat, by omega⟩
        have ht := Int.tmod_lt_of_pos a1 (show (0 : Int) < 4 by omega)
        have ht2 := Int.lt_tmod_of_pos a1 (show (0 : Int) < 4 by omega)
        have hw : wrap64 (a1.tmod 4 + 4) = a1.tmod 4 + 4 := by unfold wrap64; omega
        obtain ⟨j, hj⟩ : ∃ j : Nat, (a1.tmod 4 + 4).tmod 4 = (j : Int) := ⟨_, (Int.toNat_of_nonneg (Int.tmod_nonneg 4 (by omega))).symm⟩
        have hj4 : j < 4 := by have := Int.tmod_lt_of_pos (a1.tmod 4 + 4) (show (0 : Int) < 4 by omega); omega
        refine Ev.step (fun k => ?_) (items_all n (by omega) j hj4)
        simp only [parapetlaw20_ParseItems.j0, Bool.false_eq_true, if_false, Option.bind_some, hw, hj]
        rw [if_pos (by omega), if_pos (by simp; omega)]
        rfl
  exact ⟨K, hK K (Nat.le_refl _)⟩
end Go.Proofs.YtngedmioeodmfaaDoor.Pu
