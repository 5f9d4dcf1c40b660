/- 3 texts of the proof, put together, less what is not used; what a tool printed stands among them. -/
import Derived.Defers
import Derived.Test.YtngedmioeodmfaaDoorMSo6
namespace Go.Proofs.YtngedmioeodmfaaDoor.Ps
open Go.RowKit Go.Proofs.YtngedmioeodmfaaDoor.Pr Go.Proofs.YtngedmioeodmfaaDoorW.PrintWords Go.Proofs.YtngedmioeodmfaaDoorW.PrintLast Go.Proofs.YtngedmioeodmfaaDoorW.PrintMore
set_option linter.unusedVariables false
set_option linter.unusedSimpArgs false
theorem itemP_no {T : List Tk} {e : Int} {st : Pst} {p : Nat} (h : false = isP T e [wCsp, wShare, wMixed, wDefault, wAllow, wDeny] p) : itemP T e st p = .error (8, (nxt T e p).f1) := by
  rw [itemP, ← h]; rfl
theorem isP_two {T : List Tk} {e : Int} {a c : ByteArray} {p : Nat} (h : true = isP T e [a, c] p) : (nxt T e p).f2 = a ∨ (nxt T e p).f2 = c := by
  have h := h.symm
  simpa [isP, memB, and_assoc] using (show ((nxt T e p).f2 = a ∨ (nxt T e p).f2 = c) from by
    simp only [isP, memB, List.any_cons, List.any_nil, Bool.and_eq_true, Bool.or_eq_true, decide_eq_true_eq, Bool.or_false] at h
    exact h.2)
theorem itemP_none {T : List Tk} {e : Int} {st : Pst} {p : Nat} (h : true = isP T e [wCsp, wShare, wMixed, wDefault, wAllow, wDeny] p) (h2 : false = isP T e [wMixed, wDefault] p) : itemP T e st p = restP T e st p := by
  rw [itemP, ← h, if_pos rfl, onceP, ← h2]
  rfl
def restK (T : List Tk) (e : Int) (s1 : Pst) : Res ByteArray → Res Pst
  | .error x => .error x
  | .ok (w, q) => itemK T e { s1 with items := s1.items + 1 } w q
theorem restP_le {T : List Tk} {e : Int} {s1 : Pst} {p : Nat} (h : ¬ s1.items + 1 > 60) : restP T e s1 p = restK T e s1 (takeP T e 1 p) := by
  rw [restP, if_neg h]
  cases takeP T e 1 p <;> rfl
def cspK (s : Pst) : Res ByteArray → Res Pst
  | .error x => .error x
  | .ok (t, r) => .ok ({ s with csp := s.csp ++ [t] }, r)
def shaK (s : Pst) : Res Sh → Res Pst
  | .error x => .error x
  | .ok (h, r) => .ok ({ s with shares := s.shares ++ [h] }, r)
def mixK (s : Pst) : Res ByteArray → Res Pst
  | .error x => .error x
  | .ok (t, r) => .ok ({ s with mixed := t }, r)
def defK (s : Pst) : Res ByteArray → Res Pst
  | .error x => .error x
  | .ok (t, r) => .ok ({ s with allow := decide (t = wAllow) }, r)
theorem itemK_csp {T : List Tk} {e : Int} {s : Pst} {w : ByteArray} {q : Nat} (h : w = wCsp) : itemK T e s w q = cspK s (takeP T e 2 q) := by
  rw [itemK, if_pos h]
  cases takeP T e 2 q <;> rfl
theorem itemK_share {T : List Tk} {e : Int} {s : Pst} {w : ByteArray} {q : Nat} (h0 : ¬ w = wCsp) (h : w = wShare) : itemK T e s w q = shaK s (shareP T e q) := by
  rw [itemK, if_neg h0, if_pos h]
  cases shareP T e q <;> rfl
theorem itemK_mixed {T : List Tk} {e : Int} {s : Pst} {w : ByteArray} {q : Nat} (h0 : ¬ w = wCsp) (h1 : ¬ w = wShare) (h : w = wMixed) : itemK T e s w q = mixK s (wordP T e [wBlock, wUpgrade, wAllow] q) := by
  rw [itemK, if_neg h0, if_neg h1, if_pos h]
  cases wordP T e [wBlock, wUpgrade, wAllow] q <;> rfl
theorem itemK_default {T : List Tk} {e : Int} {s : Pst} {w : ByteArray} {q : Nat} (h0 : ¬ w = wCsp) (h1 : ¬ w = wShare) (h2 : ¬ w = wMixed) (h : w = wDefault) : itemK T e s w q = defK s (wordP T e [wAllow, wDeny] q) := by
  rw [itemK, if_neg h0, if_neg h1, if_neg h2, if_pos h]
  cases wordP T e [wAllow, wDeny] q <;> rfl
theorem itemP_once {T : List Tk} {e : Int} {st : Pst} {p : Nat} {k0 p0 : Int} {wd : ByteArray} (h : true = isP T e [wCsp, wShare, wMixed, wDefault, wAllow, wDeny] p) (h2 : true = isP T e [wMixed, wDefault] p) (ht : ⟨k0, p0, wd⟩ = nxt T e p) (hw : wd = wMixed ∨ wd = wDefault) :
    itemP T e st p = if metN st wd + 1 > 1 then .error (10, p0) else restP T e (raise st wd) p := by
  have hne : wDefault ≠ wMixed := by decide +kernel
  rw [itemP, ← h, if_pos rfl, onceP, ← h2, if_pos rfl, ← ht]
  rcases hw with rfl | rfl
  · simp only [metN, raise, if_true]
    by_cases hm : st.metM + 1 > 1
    · rw [if_pos hm, if_pos hm]
    · rw [if_neg hm, if_neg hm, restP, ← ht]; rfl
  · simp only [metN, raise, if_neg hne]
    by_cases hm : st.metD + 1 > 1
    · rw [if_pos hm, if_pos hm]
    · rw [if_neg hm, if_neg hm, restP, ← ht]; rfl
theorem IS.count {w0 W : World} {lo g : Nat} {b : Pb} {st : Pst} {gm : Nat} {okS okR : Nat → Prop} (h : IS w0 W lo g b st gm okS okR) (hi : st.items + 1 ≤ 60) : IS w0 W lo g { b with v8 := .int .i64 ((st.items : Int) + 1) } { st with items := st.items + 1 } gm okS okR :=
  { h with
    e8 := by show Value.int .i64 _ = _; rw [show ((st.items + 1 : Nat) : Int) = (st.items : Int) + 1 from by omega]
    mt := h.mt
    lC := Nat.le_succ_of_le h.lC
    lS := Nat.le_succ_of_le h.lS
    lR := Nat.le_succ_of_le h.lR
    lI := hi }
theorem IS.share {w0 W W2 : World} {lo g : Nat} {b : Pb} {st : Pst} {gm : Nat} {okS okR : Nat → Prop} (h : IS w0 W lo g b st gm okS okR) (hg : g < W.heap.size) {v5 : Value} {s : Sh}
    (hr : k44.R 44 W2 w0.heap.size (fun k => okS k ∨ W.heap.size ≤ k) v5 (st.shares ++ [s])) (hk : Kept W W2 (fun k => k = g ∨ b.v4.ownBlock = some k)) (hl : st.shares.length + 1 ≤ st.items) :
    IS w0 W2 lo g { b with v4 := v5 } { st with shares := st.shares ++ [s] } gm (fun k => (okS k ∨ W.heap.size ≤ k) ∧ k < W2.heap.size) okR :=
  { h with
    rC := Kd.R_mono (Kd.R_kept (Kd.R_tight rfl h.rC) hk (fun k he hs => by
      rcases hs with hs | hs
      · exact (h.dC k he.symm).2.1 hs
      · exact (h.dC k he.symm).2.2.2.1 (h.rS.1 k hs))) (fun _ _ => trivial)
    rS := Kd.R_mono (Kd.R_bound hr) (fun k hk => ⟨hk.1, hk.2.2.1⟩)
    rR := Kd.R_kept h.rR hk (fun k ho hs => by
      rcases hs with hs | hs
      · exact (h.bR k ho).2.2.1 hs
      · exact (h.bS k (h.rS.1 k hs)).2.2.2.2 ho)
    dC := fun k he => ⟨(h.dC k he).1, (h.dC k he).2.1, (h.dC k he).2.2.1, fun ⟨ho, _⟩ => by
      rcases ho with ho | ho
      · exact (h.dC k he).2.2.2.1 ho
      · have := Kd.R_lt h.rC k he; omega, (h.dC k he).2.2.2.2⟩
    bS := fun k ⟨ho, hlt⟩ => by
      rcases ho with ho | ho
      · exact ⟨hlt, (h.bS k ho).2⟩
      · exact ⟨hlt, by have := h.lg; omega, by omega, by have := h.mt.lt; omega, fun hq => by have := (h.bR k hq).1; omega⟩
    bR := fun k ho => ⟨by have := (h.bR k ho).1; have := hk.1; omega, (h.bR k ho).2⟩
    mt := h.mt.kept hk (fun hs => by
      rcases hs with hs | hs
      · exact h.ng hs
      · exact (h.bS gm (h.rS.1 gm hs)).2.2.2.1 rfl)
    lS := by rw [List.length_append, List.length_singleton]; exact hl }
theorem IS.lo4 {w0 W W2 : World} {lo g : Nat} {b : Pb} {st : Pst} {gm : Nat} {okS okR : Nat → Prop} (h : IS w0 W lo g b st gm okS okR) (hk : Kept W W2 (fun k => k = g ∨ b.v4.ownBlock = some k)) : Kept W W2 (fun k => lo ≤ k) :=
  hk.mono (fun k hs => by
    rcases hs with hs | hs
    · exact hs ▸ h.lg
    · exact (h.bS k (h.rS.1 k hs)).2.1)
theorem IS.csp {w0 W W2 : World} {lo g : Nat} {b : Pb} {st : Pst} {gm : Nat} {okS okR : Nat → Prop} (h : IS w0 W lo g b st gm okS okR) (hg : g < W.heap.size) {v5 : Value} {t : ByteArray}
    (hr : Kd.string.R 9 W2 w0.heap.size (fun _ => True) v5 (st.csp ++ [t])) (hv : v5.ownBlock = b.v3.ownBlock ∨ ∃ k, v5.ownBlock = some k ∧ W.heap.size ≤ k) (hk : Kept W W2 (fun k => k = g ∨ b.v3.ownBlock = some k)) (hl : st.csp.length + 1 ≤ st.items) :
    IS w0 W2 lo g { b with v3 := v5 } { st with csp := st.csp ++ [t] } gm okS okR :=
  { h with
    rC := hr
    rS := Kd.R_kept h.rS hk (fun k ho hs => by
      rcases hs with hs | hs
      · exact (h.bS k ho).2.2.1 hs
      · exact (h.dC k hs).2.2.2.1 ho)
    rR := Kd.R_kept h.rR hk (fun k ho hs => by
      rcases hs with hs | hs
      · exact (h.bR k ho).2.2.1 hs
      · exact (h.dC k hs).2.2.2.2 ho)
    dC := fun k (he : v5.ownBlock = some k) => by
      rcases hv with hv | ⟨k2, hv, hge⟩
      · exact h.dC k (hv ▸ he)
      · rw [hv] at he
        cases he
        exact ⟨by have := h.lg; omega, by omega, by have := h.mt.lt; omega, fun ho => by have := (h.bS _ ho).1; omega, fun ho => by have := (h.bR _ ho).1; omega⟩
    bS := fun k ho => ⟨by have := (h.bS k ho).1; have := hk.1; omega, (h.bS k ho).2⟩
    bR := fun k ho => ⟨by have := (h.bR k ho).1; have := hk.1; omega, (h.bR k ho).2⟩
    mt := h.mt.kept hk (fun hs => by
      rcases hs with hs | hs
      · exact h.ng hs
      · exact (h.dC gm hs).2.2.1 rfl)
    lC := by rw [List.length_append, List.length_singleton]; exact hl }
theorem IS.lo3 {w0 W W2 : World} {lo g : Nat} {b : Pb} {st : Pst} {gm : Nat} {okS okR : Nat → Prop} (h : IS w0 W lo g b st gm okS okR) (hk : Kept W W2 (fun k => k = g ∨ b.v3.ownBlock = some k)) : Kept W W2 (fun k => lo ≤ k) :=
  hk.mono (fun k hs => by
    rcases hs with hs | hs
    · exact hs ▸ h.lg
    · exact (h.dC k hs).1)
theorem IS.rule {w0 W W2 : World} {lo g : Nat} {b : Pb} {st : Pst} {gm : Nat} {okS okR : Nat → Prop} (h : IS w0 W lo g b st gm okS okR) (hg : g < W.heap.size) {v5 : Value} {s : Rl}
    (hr : k51.R 51 W2 w0.heap.size (fun k => okR k ∨ W.heap.size ≤ k) v5 (st.rules ++ [s])) (hk : Kept W W2 (fun k => k = g ∨ b.v6.ownBlock = some k)) (hl : st.rules.length + 1 ≤ st.items) :
    IS w0 W2 lo g { b with v6 := v5 } { st with rules := st.rules ++ [s] } gm okS (fun k => (okR k ∨ W.heap.size ≤ k) ∧ k < W2.heap.size) :=
  { h with
    rC := Kd.R_mono (Kd.R_kept (Kd.R_tight rfl h.rC) hk (fun k he hs => by
      rcases hs with hs | hs
      · exact (h.dC k he.symm).2.1 hs
      · exact (h.dC k he.symm).2.2.2.2 (h.rR.1 k hs))) (fun _ _ => trivial)
    rS := Kd.R_kept h.rS hk (fun k ho hs => by
      rcases hs with hs | hs
      · exact (h.bS k ho).2.2.1 hs
      · exact (h.bS k ho).2.2.2.2 (h.rR.1 k hs))
    rR := Kd.R_mono (Kd.R_bound hr) (fun k hk => ⟨hk.1, hk.2.2.1⟩)
    dC := fun k he => ⟨(h.dC k he).1, (h.dC k he).2.1, (h.dC k he).2.2.1, (h.dC k he).2.2.2.1, fun ⟨ho, _⟩ => by
      rcases ho with ho | ho
      · exact (h.dC k he).2.2.2.2 ho
      · have := Kd.R_lt h.rC k he; omega⟩
    bS := fun k ho => ⟨by have := (h.bS k ho).1; have := hk.1; omega, (h.bS k ho).2.1, (h.bS k ho).2.2.1, (h.bS k ho).2.2.2.1, fun ⟨hq, _⟩ => by
      rcases hq with hq | hq
      · exact (h.bS k ho).2.2.2.2 hq
      · have := (h.bS k ho).1; omega⟩
    bR := fun k ⟨ho, hlt⟩ => by
      rcases ho with ho | ho
      · exact ⟨hlt, (h.bR k ho).2⟩
      · exact ⟨hlt, by have := h.lg; omega, by omega, by have := h.mt.lt; omega⟩
    mt := h.mt.kept hk (fun hs => by
      rcases hs with hs | hs
      · exact h.ng hs
      · exact (h.bR gm (h.rR.1 gm hs)).2.2.2 rfl)
    lR := by rw [List.length_append, List.length_singleton]; exact hl }
theorem IS.lo6 {w0 W W2 : World} {lo g : Nat} {b : Pb} {st : Pst} {gm : Nat} {okS okR : Nat → Prop} (h : IS w0 W lo g b st gm okS okR) (hk : Kept W W2 (fun k => k = g ∨ b.v6.ownBlock = some k)) : Kept W W2 (fun k => lo ≤ k) :=
  hk.mono (fun k hs => by
    rcases hs with hs | hs
    · exact hs ▸ h.lg
    · exact (h.bR k (h.rR.1 k hs)).2.1)
theorem info_rule : (Tryd.prog.info? 51).map (fun i => (i.zero, i.size, i.bytes)) = some (some (.agg #[.bool false, .int .i64 0, .string ⟨#[]⟩, .string ⟨#[]⟩, .slice none 0 0]), k51.sz, 72) := by kernel_rfl
def ruleK (s : Pst) (w : ByteArray) : Res Cd → Res Pst
  | .error x => .error x
  | .ok (c, r2) => .ok ({ s with rules := s.rules ++ [⟨decide (w = wAllow), c⟩] }, r2)
def ifK (T : List Tk) (e : Int) (s : Pst) (w : ByteArray) : Res ByteArray → Res Pst
  | .error x => .error x
  | .ok (_, r) => ruleK s w (condP T e r)
theorem itemK_rule {T : List Tk} {e : Int} {s : Pst} {w : ByteArray} {q : Nat} (h0 : ¬ w = wCsp) (h1 : ¬ w = wShare) (h2 : ¬ w = wMixed) (h3 : ¬ w = wDefault) : itemK T e s w q = ifK T e s w (wordP T e [wIf] q) := by
  rw [itemK, if_neg h0, if_neg h1, if_neg h2, if_neg h3]
  cases wordP T e [wIf] q with
  | error x => rfl
  | ok x =>
    obtain ⟨_, r⟩ := x
    show (match condP T e r with
      | .error x => .error x
      | .ok (c, r2) => .ok ({ s with rules := s.rules ++ [⟨decide (w = wAllow), c⟩] }, r2)) = ruleK s w (condP T e r)
    cases condP T e r <;> rfl
theorem IS.mix {w0 W : World} {lo g : Nat} {b : Pb} {st : Pst} {gm : Nat} {okS okR : Nat → Prop} (h : IS w0 W lo g b st gm okS okR) (t : ByteArray) : IS w0 W lo g { b with v5 := .string t } { st with mixed := t } gm okS okR := { h with e5 := rfl }
theorem IS.dflt {w0 W : World} {lo g : Nat} {b : Pb} {st : Pst} {gm : Nat} {okS okR : Nat → Prop} (h : IS w0 W lo g b st gm okS okR) (x : Bool) : IS w0 W lo g { b with v7 := .bool x } { st with allow := x } gm okS okR := { h with e7 := rfl }
set_option maxHeartbeats 16000000 in
set_option maxRecDepth 100000 in
theorem item_calls (w0 W : World) (lo g : Nat) (T : List Tk) (b : Pb) (p : Nat) (st : Pst) (gm : Nat) (okS okR : Nat → Prop) (hsz : ∀ t ∈ T, t.f2.size ≤ 1000000) (h : PS w0 W g T b p 0) (hi : IS w0 W lo g b st gm okS okR) :
    Calls Tryd.prog 21 #[.pointer (some ⟨g, 0, none⟩)] W (ItemQ w0 W lo g T b gm (itemP T b.e st p)) := by
  have H := Aside0.mk h
  have HI := Aside0.mk hi
  have HSZ := Aside0.mk hsz
  obtain ⟨R, hR⟩ : ∃ R, R = itemP T b.e st p := ⟨_, rfl⟩
  rw [← hR]
  have HR := Aside0.mk hR
  clear hR h hi hsz
  have HIS := is_calls w0 _ g T b p 0 (H.out.below (below_alloc (Below.refl _ _) (.cells #[.string wCsp, .string wShare, .string wMixed, .string wDefault, .string wAllow, .string wDeny] 9))) (some ⟨W.heap.size, 0, none⟩) 6 6 [wCsp, wShare, wMixed, wDefault, wAllow, wDeny] (lit_strs W [wCsp, wShare, wMixed, wDefault, wAllow, wDeny] (by simp)) rfl (Nat.le_refl _) (by simp)
  obtain ⟨i, hi⟩ : ∃ i, i = isP T b.e [wCsp, wShare, wMixed, wDefault, wAllow, wDeny] p := ⟨_, rfl⟩
  rw [← hi] at HIS
  have HIS := Aside0.mk HIS
  have HI1 := Aside0.mk hi
  clear hi
  go_enter Tryd.func21, Tryd.ntmps21
  go_wp2_with fail
  refine HIS.out.mono ?_
  rintro e w1 ⟨rfl, hb⟩
  dsimp only
  have HB1 : Aside0 (Below W.heap.size W w1) := ⟨(below_alloc (Below.refl _ _) _).trans (hb.mono (below_alloc (Below.refl _ _) _).size)⟩
  have HS1 := Aside0.mk (H.out.below HB1.out)
  have HJ1 := Aside0.mk (HI.out.kept (Kept.of_below HB1.out _))
  have HK1 : Aside0 (Kept W w1 (fun k => lo ≤ k)) := ⟨Kept.of_below HB1.out _⟩
  clear hb HIS HB1
  cases i
  · obtain rfl : R = .error (8, (nxt T b.e p).f1) := by rw [HR.out, itemP_no HI1.out]
    have HF := Aside0.mk (fail_calls w0 w1 g T b p 0 8 HS1.out)
    go_wp2_with fail
    refine HF.out.mono ?_
    rintro e w2 ⟨rfl, hb⟩
    dsimp only
    exact ⟨rfl, rfl, hb⟩
  · have HIS := is_calls w0 _ g T b p 0 (HS1.out.below (below_alloc (Below.refl _ _) (.cells #[.string wMixed, .string wDefault] 9))) (some ⟨w1.heap.size, 0, none⟩) 2 2 [wMixed, wDefault] (lit_strs w1 [wMixed, wDefault] (by simp)) rfl (Nat.le_refl _) (by simp)
    obtain ⟨i, hi⟩ : ∃ i, i = isP T b.e [wMixed, wDefault] p := ⟨_, rfl⟩
    rw [← hi] at HIS
    have HIS := Aside0.mk HIS
    have HI2 := Aside0.mk hi
    clear hi
    go_wp2_with fail
    refine HIS.out.mono ?_
    rintro e w2 ⟨rfl, hb⟩
    dsimp only
    have HB2 : Aside0 (Below w1.heap.size w1 w2) := ⟨(below_alloc (Below.refl _ _) _).trans (hb.mono (below_alloc (Below.refl _ _) _).size)⟩
    have HS2 := Aside0.mk (HS1.out.below HB2.out)
    have HJ2 := Aside0.mk (HJ1.out.kept (Kept.of_below HB2.out _))
    have HK2 : Aside0 (Kept W w2 (fun k => lo ≤ k)) := ⟨HK1.out.below HB2.out⟩
    clear hb HIS HB2 HS1 HJ1 HK1
    cases i
    · have HRR : Aside0 (R = restP T b.e st p) := ⟨by rw [HR.out, itemP_none HI1.out HI2.out]⟩
      clear HR HI1 HI2
      obtain ⟨it, hit⟩ : ∃ it, it = st.items := ⟨_, rfl⟩
      have hli : (it : Int) ≤ 60 := by have := HJ2.out.lI; omega
      have c8 : w2.cell? ⟨g, 8, none⟩ = some (.int .i64 it) := (HS2.out.cell 8).trans (by rw [hit]; exact congrArg some HJ2.out.e8)
      have f8 := blk_frozen HS2.out.blk 8
      have HIT := Aside0.mk hit
      clear hit
      go_upto_region 8 with (fail)
      obtain ⟨w3, hw3⟩ : ∃ w3, w3 = w2.setCell ⟨g, 8, none⟩ (.int .i64 ((it : Int) + 1)) := ⟨_, rfl⟩
      rw [← hw3]
      have HS3 : Aside0 (PS w0 w3 g T { b with v8 := .int .i64 ((it : Int) + 1) } p 0) := ⟨by rw [hw3]; exact ⟨blk_set HS2.out.blk 8 _, HS2.out.bl.setCell (p := ⟨g, 8, none⟩) HS2.out.gl _, HS2.out.gl, HS2.out.tC, HS2.out.tn, HS2.out.tc, HS2.out.tl, HS2.out.al⟩⟩
      have HKR3 : Aside0 (Kept w2 w3 (fun k => k = g)) := ⟨by rw [hw3]; exact Kept.setCell (S := fun k => k = g) (p := ⟨g, 8, none⟩) (Kept.refl _ _) (.inl rfl) _⟩
      have HK3 : Aside0 (Kept W w3 (fun k => lo ≤ k)) := ⟨HK2.out.then_ HKR3.out (fun k hk => .inl (hk ▸ HJ2.out.lg))⟩
      clear hw3 c8 f8
      have c8 : w3.cell? ⟨g, 8, none⟩ = some (.int .i64 ((it : Int) + 1)) := HS3.out.cell 8
      by_cases hbig : 60 < it + 1
      · have l1 : decide ((60 : Int) < (it : Int) + 1) = true := decide_eq_true (by omega)
        obtain rfl : R = .error (2, (nxt T b.e p).f1) := by rw [HRR.out, restP, if_pos (by rw [← HIT.out]; exact hbig)]
        have HF := Aside0.mk (fail_calls w0 w3 g T _ p 0 2 HS3.out)
        go_wp2_with fail
        refine HF.out.mono ?_
        rintro e w4 ⟨rfl, hb⟩
        dsimp only
        exact ⟨rfl, rfl, hb⟩
      · have l1 : decide ((60 : Int) < (it : Int) + 1) = false := decide_eq_false (by omega)
        have HJ3 : Aside0 (IS w0 w3 lo g { b with v8 := .int .i64 ((it : Int) + 1) } { st with items := st.items + 1 } gm okS okR) := ⟨by rw [HIT.out]; exact (HJ2.out.kept HKR3.out).count (by rw [← HIT.out]; omega)⟩
        have h4 := take_calls w0 w3 g T _ p 0 1 HS3.out (by decide)
        obtain ⟨r4, hr4⟩ : ∃ r4, r4 = takeP T b.e 1 p := ⟨_, rfl⟩
        dsimp only at h4
        rw [← hr4] at h4
        have HRK : Aside0 (R = restK T b.e st r4) := ⟨by rw [HRR.out, restP_le (by rw [← HIT.out]; exact hbig), ← hr4]⟩
        have H4 := Aside0.mk h4
        have HR4 := Aside0.mk hr4
        clear h4 hr4 hbig HRR
        go_wp2_with fail
        refine H4.out.mono ?_
        cases r4 with
        | error x =>
          obtain rfl : R = .error x := HRK.out
          rintro e w4 ⟨rfl, hb⟩
          dsimp only
          exact ⟨rfl, rfl, hb⟩
        | ok x =>
          obtain ⟨w, q⟩ := x
          rintro e w4 ⟨v, rfl, rfl, hs4, hk4⟩
          dsimp only
          have HS4 := Aside0.mk hs4
          have HJ4 := Aside0.mk (HJ3.out.kept hk4)
          have HK4 : Aside0 (Kept W w4 (fun k => lo ≤ k)) := ⟨HK3.out.then_ hk4 (fun k hk => .inl (hk ▸ HJ2.out.lg))⟩
          obtain ⟨b4, hb4⟩ : ∃ b4, b4 = ({ b with v8 := .int .i64 ((it : Int) + 1) } : Pb) := ⟨_, rfl⟩
          rw [← hb4] at HS4 HJ4
          have HBA : Aside0 (b4.A = b.A ∧ b4.n = b.n ∧ b4.c = b.c ∧ b4.e = b.e) := ⟨by rw [hb4]; exact ⟨rfl, rfl, rfl, rfl⟩⟩
          clear hs4 hk4 hb4 c8 l1 hli
          obtain ⟨s4, hs4⟩ : ∃ s4, s4 = ({ st with items := st.items + 1 } : Pst) := ⟨_, rfl⟩
          have HRW : Aside0 (R = itemK T b.e s4 w q) := ⟨by rw [hs4]; exact HRK.out⟩
          rw [← hs4] at HJ4
          have HLN : Aside0 (s4.csp.length + 1 ≤ s4.items ∧ s4.shares.length + 1 ≤ s4.items ∧ s4.rules.length + 1 ≤ s4.items) := ⟨by rw [hs4]; exact ⟨Nat.succ_le_succ HJ2.out.lC, Nat.succ_le_succ HJ2.out.lS, Nat.succ_le_succ HJ2.out.lR⟩⟩
          clear hs4 HRK H4 HR4 HS3 HJ3 HK3 HKR3 HS2 HJ2 HK2 HIT
          by_cases hw0 : w = wCsp
          · have t0 : (w.toList == [99, 115, 112]) = true := (eq_word (w := w) (a := wCsp) (by decide +kernel)).trans (decide_eq_true hw0)
            have h7 := take_calls w0 w4.drew g T b4 q 0 2 (HS4.out.below (below_drew (Below.refl _ _))) (by decide)
            rw [HBA.out.2.2.2] at h7
            obtain ⟨r7, hr7⟩ : ∃ r7, r7 = takeP T b.e 2 q := ⟨_, rfl⟩
            rw [← hr7] at h7
            have HRX : Aside0 (R = cspK s4 r7) := ⟨by rw [HRW.out, itemK_csp hw0, ← hr7]⟩
            have H7 := Aside0.mk h7
            have HJD : Aside0 (IS w0 w4.drew lo g b4 s4 gm okS okR) := ⟨HJ4.out.kept (Kept.of_below (below_drew (Below.refl _ _)) _)⟩
            have HKD : Aside0 (Kept W w4.drew (fun k => lo ≤ k)) := ⟨HK4.out⟩
            have HLB : Aside0 ((s4.csp.length + 1) * 16 ≤ 140737488355328) := ⟨by have := HLN.out.1; have := HJ4.out.lI; omega⟩
            have d1 : w4.drew.cell? ⟨g, 3, none⟩ = some b4.v3 := HS4.out.cell 3
            clear h7 hr7 hw0 HRW HJ4 HK4
            go_upto_region 15 with (fail)
            refine start_ (n := 14) (S := fun w' => w'.cell? ⟨g, 3, none⟩ = some b4.v3) (ds := [9, 13]) #[false, false, false, false, false, false, false, false, false, false, false, false, false, false] (by kernel_rfl) rfl rfl (d1) (fun hHeld => ?_)
            refine pure_ (i := 0) (N := some 76) (v := ?_) (a' := ?_) #[true, false, false, false, false, false, false, false, false, false, false, false, false, false] rfl rfl (by kernel_rfl) (fun _ _ _ h => h) (Or.inl ⟨by rfl, ?_⟩) ?_ ?_
            rotate_left
            · intro w'
              go_simp
              with_reducible rfl
            rotate_left
            · simp only [Act.put, List.setIfInBounds_toArray, List.set_cons_zero, List.set_cons_succ, i64_w, i32_w]
              rfl
            refine pure_ (i := 1) (N := some 77) (v := ?_) (a' := ?_) #[true, true, false, false, false, false, false, false, false, false, false, false, false, false] rfl rfl (by kernel_rfl) (fun _ _ _ h => h) (Or.inl ⟨by rfl, ?_⟩) ?_ ?_
            rotate_left
            · intro w'
              go_simp
              with_reducible rfl
            rotate_left
            · simp only [Act.put, List.setIfInBounds_toArray, List.set_cons_zero, List.set_cons_succ, i64_w, i32_w]
              rfl
            refine pure_ (i := 2) (N := some 78) (v := ?_) (a' := ?_) #[true, true, true, false, false, false, false, false, false, false, false, false, false, false] rfl rfl (by kernel_rfl) (fun _ _ _ h => h) (Or.inl ⟨by rfl, ?_⟩) ?_ ?_
            rotate_left
            · intro w'
              go_simp
              with_reducible rfl
            rotate_left
            · simp only [Act.put, List.setIfInBounds_toArray, List.set_cons_zero, List.set_cons_succ, i64_w, i32_w]
              rfl
            refine pure_ (i := 3) (N := some 79) (v := ?_) (a' := ?_) #[true, true, true, true, false, false, false, false, false, false, false, false, false, false] rfl rfl (by kernel_rfl) (fun _ _ _ h => h) (Or.inl ⟨by rfl, ?_⟩) ?_ ?_
            rotate_left
            · intro w'
              go_simp
              with_reducible rfl
            rotate_left
            · simp only [Act.put, List.setIfInBounds_toArray, List.set_cons_zero, List.set_cons_succ, i64_w, i32_w]
              rfl
            refine pure_ (i := 4) (N := some 80) (v := ?_) (a' := ?_) #[true, true, true, true, true, false, false, false, false, false, false, false, false, false] rfl rfl (by kernel_rfl) (fun _ _ _ h => h) (Or.inl ⟨by rfl, ?_⟩) ?_ ?_
            rotate_left
            · intro w'
              go_simp
              with_reducible rfl
            rotate_left
            · simp only [Act.put, List.setIfInBounds_toArray, List.set_cons_zero, List.set_cons_succ, i64_w, i32_w]
              rfl
            refine pure_ (i := 6) (N := some 82) (v := ?_) (a' := ?_) #[true, true, true, true, true, false, true, false, false, false, false, false, false, false] rfl rfl (by kernel_rfl) (fun _ _ _ h => h) (Or.inl ⟨by rfl, ?_⟩) ?_ ?_
            rotate_left
            · intro w'
              go_simp
              with_reducible rfl
            rotate_left
            · simp only [Act.put, List.setIfInBounds_toArray, List.set_cons_zero, List.set_cons_succ, i64_w, i32_w]
              rfl
            refine take_ (i := 5) (N := some 81) (v := ?_) (a' := ?_) #[true, true, true, true, true, true, true, false, false, false, false, false, false, false] rfl rfl (by kernel_rfl) (fun _ _ _ h => h) (Or.inl ⟨by rfl, ?_⟩) hHeld ?_ ?_
            rotate_left
            · intro w' s0
              go_simp
              with_reducible rfl
            rotate_left
            · simp only [Act.put, List.setIfInBounds_toArray, List.set_cons_zero, List.set_cons_succ, i64_w, i32_w]
              rfl
            refine one_ (i := 7) (N := some 83) #[true, true, true, true, true, true, true, true, false, false, false, false, false, false] rfl rfl (by kernel_rfl) (by decide) (fun K hK => ?_)
            refine goesP_ Tryd.func22 (by kernel_rfl) rfl #[.pointer (some ⟨g, 0, none⟩), .int .i64 2] (by rfl) rfl rfl (by simp only [List.map_toArray, List.map_cons, List.map_nil]; rfl) ?_
            refine H7.out.mono ?_
            rcases r7 with x | ⟨t, q7⟩
            · rintro e w7 ⟨rfl, hb⟩
              refine .inr ⟨_, rfl, ?_⟩
              obtain rfl : R = .error x := HRX.out
              exact ⟨rfl, rfl, hb⟩
            rintro e w7 ⟨v7, rfl, rfl, hs7, hk7⟩
            refine .inl ⟨_, rfl, ?_⟩
            have HS7 := Aside0.mk hs7
            have HJ7 := Aside0.mk (HJD.out.kept hk7)
            have HK7 : Aside0 (Kept W w7 (fun k => lo ≤ k)) := ⟨HKD.out.then_ hk7 (fun k hk => .inl (hk ▸ HJD.out.lg))⟩
            obtain rfl : R = .ok ({ s4 with csp := s4.csp ++ [t] }, q7) := HRX.out
            clear hs7 hk7 HS4 HJD HKD HRX
            refine hK.out _ _ ((HS7.out.cell 3)) (fun hHeld => ?_)
            clear hK K
            refine norm_ (a' := ?_) ?_ ?_
            rotate_left
            · show Act.put _ (some 83) _ = _
              simp only [Act.put, List.setIfInBounds_toArray, List.set_cons_zero, List.set_cons_succ, i64_w, i32_w]
              rfl
            refine one_ (i := 8) (N := some 84) #[true, true, true, true, true, true, true, true, true, false, false, false, false, false] rfl rfl (by kernel_rfl) (by decide) (fun K hK => ?_)
            refine value_ (w1 := ?_) (v := ?_) (by rfl) rfl ?_ ?_
            rotate_left 2
            · go_simp
              constructor
              · rfl
              · rfl
            refine hK.out _ _ ((blk_cell (show (w7.alloc _).heap[g]? = _ from blk_alloc HS7.out.blk _) 3)) (fun hHeld => ?_)
            clear hK K
            refine norm_ (a' := ?_) ?_ ?_
            rotate_left
            · show Act.put _ (some 84) _ = _
              simp only [Act.put, List.setIfInBounds_toArray, List.set_cons_zero, List.set_cons_succ, i64_w, i32_w]
              rfl
            refine last_ (i := 9) (N := some 85) #[true, true, true, true, true, true, true, true, true, true, false, false, false, false] rfl rfl (by kernel_rfl) (by decide) (fun K hK => ?_)
            refine Kd.R_append_step Kd.string (w0 := w0) (W := w7) w0.heap.size (by rfl) _ _ 23 9 (.string ⟨#[]⟩) 16 rfl Tryd.underlying23 info_str rfl (by decide) (by decide) b4.v3 s4.csp t [.string t] (fun _ => True) (fun _ => False) rfl rfl rfl (fun _ hk => hk.elim) (fun _ _ => trivial) HJ7.out.rC HS7.out.bl HS7.out.bl.size HLB.out ?_
            intro v9 w9 hO9 hB9 hG9 hat9
            have hp9 : w9.heap[g]? = some (.cells (pcells b4 q7 0) 63 (0, 0)) := (hG9.block g (blk_lt HS7.out.blk) (fun he => (HJ7.out.dC g he.symm).2.1 rfl)).trans HS7.out.blk
            have hng : ∀ k, some k = v9.ownBlock → k ≠ g := fun k he hg => by
              rcases hat9 with h | ⟨k2, h, h2⟩
              · exact (HJ7.out.dC k (h.symm.trans he.symm)).2.1 hg
              · rw [h] at he; cases he; have := blk_lt HS7.out.blk; omega
            have HE : Aside0 (ItemQ w0 W lo g T b gm (.ok ({ s4 with csp := s4.csp ++ [t] }, q7)) (.returned (.tuple #[])) (w9.setCell ⟨g, 3, none⟩ v9)) := ⟨⟨rfl, { b4 with v3 := v9 }, _, _, HBA.out.1, HBA.out.2.1, HBA.out.2.2.1, HBA.out.2.2.2, ⟨blk_set hp9 3 _, hB9.setCell (p := ⟨g, 3, none⟩) HS7.out.gl _, HS7.out.gl, HS7.out.tC, HS7.out.tn, HS7.out.tc, HS7.out.tl, HS7.out.al⟩, HJ7.out.csp (blk_lt HS7.out.blk) (Kd.R_mono (Kd.R_far (Kd.R_tight rfl hO9) (p := ⟨g, 3, none⟩) hng _) (fun _ _ => trivial)) hat9 (Kept.setCell (S := fun k => k = g ∨ b4.v3.ownBlock = some k) (p := ⟨g, 3, none⟩) (Kept.of_grown hG9 (Kept.refl _ _) (fun k hk => .inl (.inr hk))) (.inl (.inl rfl)) _) HLN.out.1, HK7.out.then_ (HJ7.out.lo3 (Kept.setCell (S := fun k => k = g ∨ b4.v3.ownBlock = some k) (p := ⟨g, 3, none⟩) (Kept.of_grown hG9 (Kept.refl _ _) (fun k hk => .inl (.inr hk))) (.inl (.inl rfl)) _)) (fun k hk => .inl hk)⟩⟩
            obtain ⟨A9, c9, e9⟩ := Kd.R_slice hO9
            obtain ⟨n9, hn9⟩ : ∃ n9, n9 = (s4.csp ++ [t]).length := ⟨_, rfl⟩
            rw [← hn9] at e9
            subst e9
            have e4 : w9.cell? ⟨g, 3, none⟩ = some b4.v3 := blk_cell hp9 3
            have f4 := blk_frozen hp9 3
            clear hO9 hB9 hG9 hat9 hp9 hn9 hng
            refine hK.out _ _ ?_
            clear hK K
            refine norm_ (a' := ?_) ?_ ?_
            rotate_left
            · show Act.put _ (some 85) _ = _
              simp only [Act.put, List.setIfInBounds_toArray, List.set_cons_zero, List.set_cons_succ, i64_w, i32_w]
              rfl
            refine pure_ (i := 10) (N := some 86) (v := ?_) (a' := ?_) #[true, true, true, true, true, true, true, true, true, true, true, false, false, false] rfl rfl (by kernel_rfl) (fun _ _ _ h => h) (Or.inl ⟨by rfl, ?_⟩) ?_ ?_
            rotate_left
            · intro w'
              go_simp
              with_reducible rfl
            rotate_left
            · simp only [Act.put, List.setIfInBounds_toArray, List.set_cons_zero, List.set_cons_succ, i64_w, i32_w]
              rfl
            refine pure_ (i := 11) (N := some 87) (v := ?_) (a' := ?_) #[true, true, true, true, true, true, true, true, true, true, true, true, false, false] rfl rfl (by kernel_rfl) (fun _ _ _ h => h) (Or.inl ⟨by rfl, ?_⟩) ?_ ?_
            rotate_left
            · intro w'
              go_simp
              with_reducible rfl
            rotate_left
            · simp only [Act.put, List.setIfInBounds_toArray, List.set_cons_zero, List.set_cons_succ, i64_w, i32_w]
              rfl
            refine pure_ (i := 12) (N := some 88) (v := ?_) (a' := ?_) #[true, true, true, true, true, true, true, true, true, true, true, true, true, false] rfl rfl (by kernel_rfl) (fun _ _ _ h => h) (Or.inl ⟨by rfl, ?_⟩) ?_ ?_
            rotate_left
            · intro w'
              go_simp
              with_reducible rfl
            rotate_left
            · simp only [Act.put, List.setIfInBounds_toArray, List.set_cons_zero, List.set_cons_succ, i64_w, i32_w]
              rfl
            refine last_ (i := 13) (N := none) #[true, true, true, true, true, true, true, true, true, true, true, true, true, true] rfl rfl (by kernel_rfl) (by decide) (fun K hK => ?_)
            refine skip_ (w1 := ?_) (by rfl) rfl ?_ ?_
            rotate_left
            · go_simp
              rfl
            refine hK.out _ _ ?_
            clear hK K
            refine done_ (by kernel_rfl) ?_

            go_wp2
            exact ⟨rfl, .tuple #[], by simp [results, Tryd.results21], HE.out⟩
          · have t0 : (w.toList == [99, 115, 112]) = false := (eq_word (w := w) (a := wCsp) (by decide +kernel)).trans (decide_eq_false hw0)
            by_cases hw1 : w = wShare
            · have t1 : (w.toList == [115, 104, 97, 114, 101]) = true := (eq_word (w := w) (a := wShare) (by decide +kernel)).trans (decide_eq_true hw1)
              have h5 := share_calls w0 w4 g T b4 q 0 HS4.out (fun k => okS k ∨ w4.heap.size ≤ k) s4.shares (Kd.R_mono HJ4.out.rS (fun k hk => .inl hk)) (fun k hk => .inr hk) (by rintro (hg | hg); exact (HJ4.out.bS g hg).2.2.1 rfl; have := blk_lt HS4.out.blk; omega) (by have := HJ4.out.lS; have := HJ4.out.lI; omega)
              rw [HBA.out.2.2.2] at h5
              obtain ⟨r5, hr5⟩ : ∃ r5, r5 = shareP T b.e q := ⟨_, rfl⟩
              rw [← hr5] at h5
              have HRX : Aside0 (R = shaK s4 r5) := ⟨by rw [HRW.out, itemK_share hw0 hw1, ← hr5]⟩
              have H5 := Aside0.mk h5
              clear h5 hr5 hw0 hw1 HRW
              go_wp2_with fail
              refine H5.out.mono ?_
              cases r5 with
              | error x =>
                obtain rfl : R = .error x := HRX.out
                rintro e w5 ⟨rfl, hb⟩
                dsimp only
                exact ⟨rfl, rfl, hb⟩
              | ok x =>
                obtain ⟨h5, q5⟩ := x
                obtain rfl : R = .ok ({ s4 with shares := s4.shares ++ [h5] }, q5) := HRX.out
                rintro e w5 ⟨rfl, v5, hs5, hr5, hk5⟩
                dsimp only
                have HE : Aside0 (ItemQ w0 W lo g T b gm (.ok ({ s4 with shares := s4.shares ++ [h5] }, q5)) (.returned (.tuple #[])) w5) := ⟨⟨rfl, { b4 with v4 := v5 }, _, _, HBA.out.1, HBA.out.2.1, HBA.out.2.2.1, HBA.out.2.2.2, hs5, HJ4.out.share (blk_lt HS4.out.blk) hr5 hk5 HLN.out.2.1, HK4.out.then_ (HJ4.out.lo4 hk5) (fun k hk => .inl hk)⟩⟩
                clear hs5 hr5 hk5
                go_wp2
                exact ⟨rfl, .tuple #[], by simp [results, Tryd.results21], HE.out⟩
            · have t1 : (w.toList == [115, 104, 97, 114, 101]) = false := (eq_word (w := w) (a := wShare) (by decide +kernel)).trans (decide_eq_false hw1)
              by_cases hw2 : w = wMixed
              · have t2 : (w.toList == [109, 105, 120, 101, 100]) = true := (eq_word (w := w) (a := wMixed) (by decide +kernel)).trans (decide_eq_true hw2)
                have h5 := word_calls w0 (w4.alloc (.cells #[.string wBlock, .string wUpgrade, .string wAllow] 9)) g T b4 q 0 (HS4.out.below (below_alloc (Below.refl _ _) _)) (some ⟨w4.heap.size, 0, none⟩) 3 3 [wBlock, wUpgrade, wAllow] (lit_strs w4 [wBlock, wUpgrade, wAllow] (by simp)) rfl (Nat.le_refl _) (by simp)
                rw [HBA.out.2.2.2] at h5
                obtain ⟨r5, hr5⟩ : ∃ r5, r5 = wordP T b.e [wBlock, wUpgrade, wAllow] q := ⟨_, rfl⟩
                rw [← hr5] at h5
                have HRX : Aside0 (R = mixK s4 r5) := ⟨by rw [HRW.out, itemK_mixed hw0 hw1 hw2, ← hr5]⟩
                have H5 := Aside0.mk h5
                clear h5 hr5 hw0 hw1 hw2 HRW
                go_wp2_with fail
                refine H5.out.mono ?_
                cases r5 with
                | error x =>
                  obtain rfl : R = .error x := HRX.out
                  rintro e w5 ⟨rfl, hb⟩
                  dsimp only
                  exact ⟨rfl, rfl, hb⟩
                | ok x =>
                  obtain ⟨t, q5⟩ := x
                  obtain rfl : R = .ok ({ s4 with mixed := t }, q5) := HRX.out
                  rintro e w5 ⟨v5, rfl, rfl, hs5, hk5⟩
                  dsimp only
                  have hkw : Kept w4 w5 (fun k => k = g) := (Kept.alloc (Kept.refl _ _) _).then_ hk5 (fun k hk => .inl hk)
                  have hkw2 : Kept w4 (w5.setCell ⟨g, 5, none⟩ (.string t)) (fun k => k = g) := Kept.setCell (S := fun k => k = g) (p := ⟨g, 5, none⟩) hkw (.inl rfl) _
                  have HE : Aside0 (ItemQ w0 W lo g T b gm (.ok ({ s4 with mixed := t }, q5)) (.returned (.tuple #[])) (w5.setCell ⟨g, 5, none⟩ (.string t))) := ⟨⟨rfl, { b4 with v5 := .string t }, _, _, HBA.out.1, HBA.out.2.1, HBA.out.2.2.1, HBA.out.2.2.2, ⟨blk_set hs5.blk 5 _, hs5.bl.setCell (p := ⟨g, 5, none⟩) hs5.gl _, hs5.gl, hs5.tC, hs5.tn, hs5.tc, hs5.tl, hs5.al⟩, (HJ4.out.kept hkw2).mix t, HK4.out.then_ hkw2 (fun k hk => .inl (hk ▸ HJ4.out.lg))⟩⟩
                  have e5 : w5.cell? ⟨g, 5, none⟩ = some b4.v5 := hs5.cell 5
                  rw [HJ4.out.e5] at e5
                  have f5 := blk_frozen hs5.blk 5
                  clear hs5 hk5 hkw hkw2
                  go_wp2
                  exact ⟨rfl, .tuple #[], by simp [results, Tryd.results21], HE.out⟩
              · have t2 : (w.toList == [109, 105, 120, 101, 100]) = false := (eq_word (w := w) (a := wMixed) (by decide +kernel)).trans (decide_eq_false hw2)
                by_cases hw3 : w = wDefault
                · have t3 : (w.toList == [100, 101, 102, 97, 117, 108, 116]) = true := (eq_word (w := w) (a := wDefault) (by decide +kernel)).trans (decide_eq_true hw3)
                  have h5 := word_calls w0 (w4.alloc (.cells #[.string wAllow, .string wDeny] 9)) g T b4 q 0 (HS4.out.below (below_alloc (Below.refl _ _) _)) (some ⟨w4.heap.size, 0, none⟩) 2 2 [wAllow, wDeny] (lit_strs w4 [wAllow, wDeny] (by simp)) rfl (Nat.le_refl _) (by simp)
                  rw [HBA.out.2.2.2] at h5
                  obtain ⟨r5, hr5⟩ : ∃ r5, r5 = wordP T b.e [wAllow, wDeny] q := ⟨_, rfl⟩
                  rw [← hr5] at h5
                  have HRX : Aside0 (R = defK s4 r5) := ⟨by rw [HRW.out, itemK_default hw0 hw1 hw2 hw3, ← hr5]⟩
                  have H5 := Aside0.mk h5
                  clear h5 hr5 hw0 hw1 hw2 hw3 HRW
                  go_wp2_with fail
                  refine H5.out.mono ?_
                  cases r5 with
                  | error x =>
                    obtain rfl : R = .error x := HRX.out
                    rintro e w5 ⟨rfl, hb⟩
                    dsimp only
                    exact ⟨rfl, rfl, hb⟩
                  | ok x =>
                    obtain ⟨t, q5⟩ := x
                    rintro e w5 ⟨v5, rfl, rfl, hs5, hk5⟩
                    dsimp only
                    have hkw : Kept w4 w5 (fun k => k = g) := (Kept.alloc (Kept.refl _ _) _).then_ hk5 (fun k hk => .inl hk)
                    obtain ⟨x, hx⟩ : ∃ x, x = decide (t = wAllow) := ⟨_, rfl⟩
                    obtain rfl : R = .ok ({ s4 with allow := x }, q5) := by rw [hx]; exact HRX.out
                    have tA : (t.toList == [97, 108, 108, 111, 119]) = x := (eq_word (w := t) (a := wAllow) (by decide +kernel)).trans hx.symm
                    have hkw2 : Kept w4 (w5.setCell ⟨g, 7, none⟩ (.bool x)) (fun k => k = g) := Kept.setCell (S := fun k => k = g) (p := ⟨g, 7, none⟩) hkw (.inl rfl) _
                    have HE : Aside0 (ItemQ w0 W lo g T b gm (.ok ({ s4 with allow := x }, q5)) (.returned (.tuple #[])) (w5.setCell ⟨g, 7, none⟩ (.bool x))) := ⟨⟨rfl, { b4 with v7 := .bool x }, _, _, HBA.out.1, HBA.out.2.1, HBA.out.2.2.1, HBA.out.2.2.2, ⟨blk_set hs5.blk 7 _, hs5.bl.setCell (p := ⟨g, 7, none⟩) hs5.gl _, hs5.gl, hs5.tC, hs5.tn, hs5.tc, hs5.tl, hs5.al⟩, (HJ4.out.kept hkw2).dflt x, HK4.out.then_ hkw2 (fun k hk => .inl (hk ▸ HJ4.out.lg))⟩⟩
                    have e5 : w5.cell? ⟨g, 7, none⟩ = some b4.v7 := hs5.cell 7
                    rw [HJ4.out.e7] at e5
                    have f5 := blk_frozen hs5.blk 7
                    clear hs5 hk5 hkw hkw2 hx
                    go_wp2
                    exact ⟨rfl, .tuple #[], by simp [results, Tryd.results21], HE.out⟩
                · have t3 : (w.toList == [100, 101, 102, 97, 117, 108, 116]) = false := (eq_word (w := w) (a := wDefault) (by decide +kernel)).trans (decide_eq_false hw3)
                  have h5 := word_calls w0 (w4.alloc (.cells #[.string wIf] 9)) g T b4 q 0 (HS4.out.below (below_alloc (Below.refl _ _) _)) (some ⟨w4.heap.size, 0, none⟩) 1 1 [wIf] (lit_strs w4 [wIf] (by simp)) rfl (Nat.le_refl _) (by simp)
                  rw [HBA.out.2.2.2] at h5
                  obtain ⟨r5, hr5⟩ : ∃ r5, r5 = wordP T b.e [wIf] q := ⟨_, rfl⟩
                  rw [← hr5] at h5
                  have HRX : Aside0 (R = ifK T b.e s4 w r5) := ⟨by rw [HRW.out, itemK_rule hw0 hw1 hw2 hw3, ← hr5]⟩
                  have H5 := Aside0.mk h5
                  clear h5 hr5 hw0 hw1 hw2 hw3 HRW
                  go_wp2_with fail
                  refine H5.out.mono ?_
                  cases r5 with
                  | error x =>
                    obtain rfl : R = .error x := HRX.out
                    rintro e w5 ⟨rfl, hb⟩
                    dsimp only
                    exact ⟨rfl, rfl, hb⟩
                  | ok x =>
                    obtain ⟨t, q5⟩ := x
                    rintro e w5 ⟨v5, rfl, rfl, hs5, hk5⟩
                    dsimp only
                    have hkw : Kept w4 w5 (fun k => k = g) := (Kept.alloc (Kept.refl _ _) _).then_ hk5 (fun k hk => .inl hk)
                    obtain ⟨y, hy⟩ : ∃ y, y = decide (w = wAllow) := ⟨_, rfl⟩
                    have tA : (w.toList == [97, 108, 108, 111, 119]) = y := (eq_word (w := w) (a := wAllow) (by decide +kernel)).trans hy.symm
                    have HS5 := Aside0.mk hs5
                    have HJ5 := Aside0.mk (HJ4.out.kept hkw)
                    have HK5 : Aside0 (Kept W w5 (fun k => lo ≤ k)) := ⟨HK4.out.then_ hkw (fun k hk => .inl (hk ▸ HJ4.out.lg))⟩
                    have h7 := cond_calls w0 w5.drew g T b4 q5 (HS5.out.below (below_drew (Below.refl _ _))) HSZ.out
                    rw [HBA.out.2.2.2] at h7
                    obtain ⟨r7, hr7⟩ : ∃ r7, r7 = condP T b.e q5 := ⟨_, rfl⟩
                    rw [← hr7] at h7
                    have HRY : Aside0 (R = ruleK s4 w r7) := ⟨by rw [HRX.out, hr7]; rfl⟩
                    have H7 := Aside0.mk h7
                    have HY := Aside0.mk hy
                    have HJD : Aside0 (IS w0 w5.drew lo g b4 s4 gm okS okR) := ⟨HJ5.out.kept (Kept.of_below (below_drew (Below.refl _ _)) _)⟩
                    have HKD : Aside0 (Kept W w5.drew (fun k => lo ≤ k)) := ⟨HK5.out⟩
                    have HGD : Aside0 (g < w5.drew.heap.size) := ⟨blk_lt HS5.out.blk⟩
                    have HLB : Aside0 ((s4.rules.length + 1) * 72 ≤ 140737488355328) := ⟨by have := HLN.out.2.2; have := HJ4.out.lI; omega⟩
                    have d1 : w5.drew.cell? ⟨g, 6, none⟩ = some b4.v6 := HS5.out.cell 6
                    clear h7 hr7 hy hs5 hk5 hkw HJ4 HJ5 HK4 HK5 HS4 HRX H5
                    go_upto_region 13 with (fail)
                    refine start_ (n := 17) (S := fun w' => w'.cell? ⟨g, 6, none⟩ = some b4.v6) (ds := [12, 16]) #[false, false, false, false, false, false, false, false, false, false, false, false, false, false, false, false, false] (by kernel_rfl) rfl rfl (d1) (fun hHeld => ?_)
                    refine pure_ (i := 0) (N := some 58) (v := ?_) (a' := ?_) #[true, false, false, false, false, false, false, false, false, false, false, false, false, false, false, false, false] rfl rfl (by kernel_rfl) (fun _ _ _ h => h) (Or.inl ⟨by rfl, ?_⟩) ?_ ?_
                    rotate_left
                    · intro w'
                      go_simp
                      with_reducible rfl
                    rotate_left
                    · simp only [Act.put, List.setIfInBounds_toArray, List.set_cons_zero, List.set_cons_succ, i64_w, i32_w]
                      rfl
                    refine pure_ (i := 1) (N := some 59) (v := ?_) (a' := ?_) #[true, true, false, false, false, false, false, false, false, false, false, false, false, false, false, false, false] rfl rfl (by kernel_rfl) (fun _ _ _ h => h) (Or.inl ⟨by rfl, ?_⟩) ?_ ?_
                    rotate_left
                    · intro w'
                      go_simp
                      with_reducible rfl
                    rotate_left
                    · simp only [Act.put, List.setIfInBounds_toArray, List.set_cons_zero, List.set_cons_succ, i64_w, i32_w]
                      rfl
                    refine pure_ (i := 2) (N := some 60) (v := ?_) (a' := ?_) #[true, true, true, false, false, false, false, false, false, false, false, false, false, false, false, false, false] rfl rfl (by kernel_rfl) (fun _ _ _ h => h) (Or.inl ⟨by rfl, ?_⟩) ?_ ?_
                    rotate_left
                    · intro w'
                      go_simp
                      with_reducible rfl
                    rotate_left
                    · simp only [Act.put, List.setIfInBounds_toArray, List.set_cons_zero, List.set_cons_succ, i64_w, i32_w]
                      rfl
                    refine pure_ (i := 3) (N := some 61) (v := ?_) (a' := ?_) #[true, true, true, true, false, false, false, false, false, false, false, false, false, false, false, false, false] rfl rfl (by kernel_rfl) (fun _ _ _ h => h) (Or.inl ⟨by rfl, ?_⟩) ?_ ?_
                    rotate_left
                    · intro w'
                      go_simp
                      with_reducible rfl
                    rotate_left
                    · simp only [Act.put, List.setIfInBounds_toArray, List.set_cons_zero, List.set_cons_succ, i64_w, i32_w]
                      rfl
                    refine pure_ (i := 4) (N := some 62) (v := ?_) (a' := ?_) #[true, true, true, true, true, false, false, false, false, false, false, false, false, false, false, false, false] rfl rfl (by kernel_rfl) (fun _ _ _ h => h) (Or.inl ⟨by rfl, ?_⟩) ?_ ?_
                    rotate_left
                    · intro w'
                      go_simp
                      with_reducible rfl
                    rotate_left
                    · simp only [Act.put, List.setIfInBounds_toArray, List.set_cons_zero, List.set_cons_succ, i64_w, i32_w]
                      rfl
                    refine pure_ (i := 6) (N := some 64) (v := ?_) (a' := ?_) #[true, true, true, true, true, false, true, false, false, false, false, false, false, false, false, false, false] rfl rfl (by kernel_rfl) (fun _ _ _ h => h) (Or.inl ⟨by rfl, ?_⟩) ?_ ?_
                    rotate_left
                    · intro w'
                      go_simp
                      with_reducible rfl
                    rotate_left
                    · simp only [Act.put, List.setIfInBounds_toArray, List.set_cons_zero, List.set_cons_succ, i64_w, i32_w]
                      rfl
                    refine pure_ (i := 7) (N := some 65) (v := ?_) (a' := ?_) #[true, true, true, true, true, false, true, true, false, false, false, false, false, false, false, false, false] rfl rfl (by kernel_rfl) (fun _ _ _ h => h) (Or.inl ⟨by rfl, ?_⟩) ?_ ?_
                    rotate_left
                    · intro w'
                      go_simp
                      with_reducible rfl
                    rotate_left
                    · simp only [Act.put, List.setIfInBounds_toArray, List.set_cons_zero, List.set_cons_succ, i64_w, i32_w]
                      rfl
                    refine pure_ (i := 8) (N := some 66) (v := ?_) (a' := ?_) #[true, true, true, true, true, false, true, true, true, false, false, false, false, false, false, false, false] rfl rfl (by kernel_rfl) (fun _ _ _ h => h) (Or.inl ⟨by rfl, ?_⟩) ?_ ?_
                    rotate_left
                    · intro w'
                      go_simp
                      with_reducible rfl
                    rotate_left
                    · simp only [Act.put, List.setIfInBounds_toArray, List.set_cons_zero, List.set_cons_succ, i64_w, i32_w]
                      rfl
                    refine take_ (i := 5) (N := some 63) (v := ?_) (a' := ?_) #[true, true, true, true, true, true, true, true, true, false, false, false, false, false, false, false, false] rfl rfl (by kernel_rfl) (fun _ _ _ h => h) (Or.inl ⟨by rfl, ?_⟩) hHeld ?_ ?_
                    rotate_left
                    · intro w' s0
                      go_simp
                      with_reducible rfl
                    rotate_left
                    · simp only [Act.put, List.setIfInBounds_toArray, List.set_cons_zero, List.set_cons_succ, i64_w, i32_w]
                      rfl
                    refine one_ (i := 9) (N := some 67) #[true, true, true, true, true, true, true, true, true, true, false, false, false, false, false, false, false] rfl rfl (by kernel_rfl) (by decide) (fun K hK => ?_)
                    refine goesP_ Tryd.func50 (by kernel_rfl) rfl #[.pointer (some ⟨g, 0, none⟩)] (by rfl) rfl rfl (by simp only [List.map_toArray, List.map_cons, List.map_nil]; rfl) ?_
                    refine H7.out.mono ?_
                    rcases r7 with x | ⟨c, q7⟩
                    · rintro e w7 ⟨rfl, hb⟩
                      refine .inr ⟨_, rfl, ?_⟩
                      obtain rfl : R = .error x := HRY.out
                      exact ⟨rfl, rfl, hb⟩
                    rintro e w7 ⟨v7, rfl, ⟨v3, rfl, hr7⟩, hs7, hk7⟩
                    refine .inl ⟨_, rfl, ?_⟩
                    unfold cdcells
                    have HS7 := Aside0.mk hs7
                    have HJ7 := Aside0.mk (HJD.out.kept hk7)
                    have HKG := Aside0.mk hk7
                    have HM7 := Aside0.mk (k51_mkM w7 w0.heap.size (fun k => w5.drew.heap.size ≤ k) ⟨y, c⟩ hr7)
                    obtain rfl : R = .ok ({ s4 with rules := s4.rules ++ [⟨y, c⟩] }, q7) := by rw [HY.out]; exact HRY.out
                    have HOK : Aside0 (∀ k, w5.drew.heap.size ≤ k → (okR k ∨ w5.drew.heap.size ≤ k) ∧ some k ≠ b4.v6.ownBlock) := ⟨fun k hk => ⟨.inr hk, fun he => by have := Kd.R_lt HJD.out.rR k he.symm; omega⟩⟩
                    have HFR : Aside0 (∀ k, w7.heap.size ≤ k → okR k ∨ w5.drew.heap.size ≤ k) := ⟨fun k hk => .inr (by have := HKG.out.1; omega)⟩
                    have HR7 : Aside0 (k51.R 51 w7 w0.heap.size (fun k => okR k ∨ w5.drew.heap.size ≤ k) b4.v6 s4.rules) := ⟨Kd.R_mono HJ7.out.rR (fun k hk => .inl hk)⟩
                    clear hs7 hk7 hr7 HS5 HRY
                    refine hK.out _ _ ((HS7.out.cell 6)) (fun hHeld => ?_)
                    clear hK K
                    refine norm_ (a' := ?_) ?_ ?_
                    rotate_left
                    · show Act.put _ (some 67) _ = _
                      simp only [Act.put, List.setIfInBounds_toArray, List.set_cons_zero, List.set_cons_succ, i64_w, i32_w]
                      rfl
                    refine pure_ (i := 10) (N := some 68) (v := ?_) (a' := ?_) #[true, true, true, true, true, true, true, true, true, true, true, false, false, false, false, false, false] rfl rfl (by kernel_rfl) (fun _ _ _ h => h) (Or.inl ⟨by rfl, ?_⟩) ?_ ?_
                    rotate_left
                    · intro w'
                      go_simp
                      with_reducible rfl
                    rotate_left
                    · simp only [Act.put, List.setIfInBounds_toArray, List.set_cons_zero, List.set_cons_succ, i64_w, i32_w]
                      rfl
                    refine one_ (i := 11) (N := some 69) #[true, true, true, true, true, true, true, true, true, true, true, true, false, false, false, false, false] rfl rfl (by kernel_rfl) (by decide) (fun K hK => ?_)
                    refine value_ (w1 := ?_) (v := ?_) (by rfl) rfl ?_ ?_
                    rotate_left 2
                    · go_simp
                      constructor
                      · rfl
                      · rfl
                    refine hK.out _ _ ((blk_cell (show (w7.alloc _).heap[g]? = _ from blk_alloc HS7.out.blk _) 6)) (fun hHeld => ?_)
                    clear hK K
                    refine norm_ (a' := ?_) ?_ ?_
                    rotate_left
                    · show Act.put _ (some 69) _ = _
                      simp only [Act.put, List.setIfInBounds_toArray, List.set_cons_zero, List.set_cons_succ, i64_w, i32_w]
                      rfl
                    refine last_ (i := 12) (N := some 70) #[true, true, true, true, true, true, true, true, true, true, true, true, true, false, false, false, false] rfl rfl (by kernel_rfl) (by decide) (fun K hK => ?_)
                    refine Kd.R_append_step k51 (w0 := w0) (W := w7) w0.heap.size (by rfl) _ _ 25 51 _ 72 rfl Tryd.underlying25 info_rule rfl (by decide) (by decide) b4.v6 s4.rules ⟨y, c⟩ [.bool y, .int .i64 c.f0, .string c.f1.f0, .string c.f1.f1, v3] (fun k => okR k ∨ w5.drew.heap.size ≤ k) (fun k => w5.drew.heap.size ≤ k) rfl rfl HM7.out HOK.out HFR.out HR7.out HS7.out.bl HS7.out.bl.size HLB.out ?_
                    intro v9 w9 hO9 hB9 hG9 hat9
                    have hp9 : w9.heap[g]? = some (.cells (pcells b4 q7 0) 63 (0, 0)) := (hG9.block g (blk_lt HS7.out.blk) (fun he => (HJ7.out.bR g (HJ7.out.rR.1 g he.symm)).2.2.1 rfl)).trans HS7.out.blk
                    have hkf : Kept w5.drew (w9.setCell ⟨g, 6, none⟩ v9) (fun k => k = g ∨ b4.v6.ownBlock = some k) := Kept.setCell (S := fun k => k = g ∨ b4.v6.ownBlock = some k) (p := ⟨g, 6, none⟩) (Kept.of_grown hG9 (HKG.out.mono (fun k hk => .inl hk)) (fun k hk => .inl (.inr hk))) (.inl (.inl rfl)) _
                    have HE : Aside0 (ItemQ w0 W lo g T b gm (.ok ({ s4 with rules := s4.rules ++ [⟨y, c⟩] }, q7)) (.returned (.tuple #[])) (w9.setCell ⟨g, 6, none⟩ v9)) := ⟨⟨rfl, { b4 with v6 := v9 }, _, _, HBA.out.1, HBA.out.2.1, HBA.out.2.2.1, HBA.out.2.2.2, ⟨blk_set hp9 6 _, hB9.setCell (p := ⟨g, 6, none⟩) HS7.out.gl _, HS7.out.gl, HS7.out.tC, HS7.out.tn, HS7.out.tc, HS7.out.tl, HS7.out.al⟩, HJD.out.rule HGD.out (Kd.R_far hO9 (p := ⟨g, 6, none⟩) (fun k hk (he : k = g) => by
                      rcases hk with hk | hk
                      · exact (HJD.out.bR k hk).2.2.1 he
                      · have := HGD.out; omega) _) hkf HLN.out.2.2, HKD.out.then_ (HJD.out.lo6 hkf) (fun k hk => .inl hk)⟩⟩
                    obtain ⟨A9, c9, e9⟩ := Kd.R_slice hO9
                    obtain ⟨n9, hn9⟩ : ∃ n9, n9 = (s4.rules ++ [(⟨y, c⟩ : Rl)]).length := ⟨_, rfl⟩
                    rw [← hn9] at e9
                    subst e9
                    have e4 : w9.cell? ⟨g, 6, none⟩ = some b4.v6 := blk_cell hp9 6
                    have f4 := blk_frozen hp9 6
                    clear hO9 hB9 hG9 hat9 hp9 hn9 hkf
                    refine hK.out _ _ ?_
                    clear hK K
                    refine norm_ (a' := ?_) ?_ ?_
                    rotate_left
                    · show Act.put _ (some 70) _ = _
                      simp only [Act.put, List.setIfInBounds_toArray, List.set_cons_zero, List.set_cons_succ, i64_w, i32_w]
                      rfl
                    refine pure_ (i := 13) (N := some 71) (v := ?_) (a' := ?_) #[true, true, true, true, true, true, true, true, true, true, true, true, true, true, false, false, false] rfl rfl (by kernel_rfl) (fun _ _ _ h => h) (Or.inl ⟨by rfl, ?_⟩) ?_ ?_
                    rotate_left
                    · intro w'
                      go_simp
                      with_reducible rfl
                    rotate_left
                    · simp only [Act.put, List.setIfInBounds_toArray, List.set_cons_zero, List.set_cons_succ, i64_w, i32_w]
                      rfl
                    refine pure_ (i := 14) (N := some 72) (v := ?_) (a' := ?_) #[true, true, true, true, true, true, true, true, true, true, true, true, true, true, true, false, false] rfl rfl (by kernel_rfl) (fun _ _ _ h => h) (Or.inl ⟨by rfl, ?_⟩) ?_ ?_
                    rotate_left
                    · intro w'
                      go_simp
                      with_reducible rfl
                    rotate_left
                    · simp only [Act.put, List.setIfInBounds_toArray, List.set_cons_zero, List.set_cons_succ, i64_w, i32_w]
                      rfl
                    refine pure_ (i := 15) (N := some 73) (v := ?_) (a' := ?_) #[true, true, true, true, true, true, true, true, true, true, true, true, true, true, true, true, false] rfl rfl (by kernel_rfl) (fun _ _ _ h => h) (Or.inl ⟨by rfl, ?_⟩) ?_ ?_
                    rotate_left
                    · intro w'
                      go_simp
                      with_reducible rfl
                    rotate_left
                    · simp only [Act.put, List.setIfInBounds_toArray, List.set_cons_zero, List.set_cons_succ, i64_w, i32_w]
                      rfl
                    refine last_ (i := 16) (N := none) #[true, true, true, true, true, true, true, true, true, true, true, true, true, true, true, true, true] rfl rfl (by kernel_rfl) (by decide) (fun K hK => ?_)
                    refine skip_ (w1 := ?_) (by rfl) rfl ?_ ?_
                    rotate_left
                    · go_simp
                      rfl
                    refine hK.out _ _ ?_
                    clear hK K
                    refine done_ (by kernel_rfl) ?_

                    go_wp2
                    exact ⟨rfl, .tuple #[], by simp [results, Tryd.results21], HE.out⟩
    · have HT2 : Aside0 ((nxt T b.e p).f2 = wMixed ∨ (nxt T b.e p).f2 = wDefault) := ⟨isP_two HI2.out⟩
      have HNX := Aside0.mk (next_calls w0 w2 g T b p 0 HS2.out)
      obtain ⟨tk, htk⟩ : ∃ tk, tk = nxt T b.e p := ⟨_, rfl⟩
      rw [← htk] at HNX HT2
      have HTK := Aside0.mk htk
      clear htk
      go_wp2_with fail
      refine HNX.out.mono ?_
      rintro e w3 ⟨rfl, hb⟩
      dsimp only [tkcells]
      have HS3 := Aside0.mk (HS2.out.below hb)
      have HJ3 := Aside0.mk (HJ2.out.kept (Kept.of_below hb _))
      have HK3 : Aside0 (Kept W w3 (fun k => lo ≤ k)) := ⟨HK2.out.below hb⟩
      clear hb HNX HS2 HJ2 HK2
      obtain ⟨k0, p0, wd⟩ := tk
      dsimp only at HT2 ⊢
      obtain ⟨D, hD, hA1, hU⟩ := Met.at_ HJ3.out.mt HT2.out
      have HD := Aside0.mk hD
      have HU := Aside0.mk hU
      have HKW := Aside0.mk (key_met HT2.out)
      have c9 : w3.cell? ⟨g, 9, none⟩ = some (.map (some gm)) := (HS3.out.cell 9).trans (congrArg some HJ3.out.e9)
      clear hD hU
      obtain ⟨mm, hmm⟩ : ∃ mm, mm = metN st wd := ⟨_, rfl⟩
      rw [← hmm] at hA1 HU
      have hm1 : (mm : Int) ≤ 1 := by have := metN_le HJ3.out wd; omega
      have HA1 := Aside0.mk hA1
      have HMM := Aside0.mk hmm
      obtain ⟨nm, hnm⟩ : ∃ nm, nm = st.metM + st.metD := ⟨_, rfl⟩
      rw [← hnm] at HD HU
      have HMX : Aside0 (nm < maxLen) := ⟨by have := HJ3.out.lM; have := HJ3.out.lD; unfold maxLen; omega⟩
      clear hA1 hmm hnm
      go_upto_region 4 with (rename_i K1 hK1; refine hK1 _ _ ?_; simp only [List.getElem_toArray, List.getElem_cons_succ, List.getElem_cons_zero])
      have hun := Tryd.underlying61
      have hlk : ∀ {ops : Array Oper} {rest : List Oper} {o : Oper} {a : Act} {Q : Exit → Act → World → Prop} (hg : o.guard = none) (hop : o.op = Op.lookup 61 (.tmp 25) (.tmp 26) false) (hm : a.eval (.tmp 25) = .map (some gm)) (hx : a.eval (.tmp 26) = .string wd) (hK : wpList Tryd.prog ops Q rest (a.put o.dst (.int .i64 (mm : Int))) w3), wpList Tryd.prog ops Q (o :: rest) a w3 := by
        intro ops rest o a Q hg hop hm hx hK
        refine wpList_lookup_own_int w3 hg (.tmp 25) (.tmp 26) 61 hop 9 3 .i64 (Go.Maps.string_keyed Tryd.underlying9) hun Tryd.underlying3 (zero_int _) gm nm D hm HD.out _ (litW wd) hx HKW.out ?_
        intro c hc hwf
        have h9 := hc.symm.trans HA1.out
        obtain rfl : c = (mm : Int) := by simpa using h9
        exact hK
      have HPI : Aside0 (plainElem (H := Unit) Tryd.prog 3 (.int .i64 ((mm : Int) + 1)) = some (.lit (.int .i64 ((mm : Int) + 1)), [])) := ⟨plain_int (mm + 1) (by omega)⟩
      have hup : ∀ {ops : Array Oper} {rest : List Oper} {o : Oper} {a : Act} {Q : Exit → Act → World → Prop} (hg : o.guard = none) (hop : o.op = Op.mapUpdate 61 (.tmp 25) (.tmp 26) (.tmp 28)) (hm : a.eval (.tmp 25) = .map (some gm)) (hx : a.eval (.tmp 26) = .string wd) (hv : a.eval (.tmp 28) = .int .i64 ((mm : Int) + 1)) (hK : ∀ w', w'.ownsMap Tryd.prog 9 (plainElem Tryd.prog 3) gm (nm + 1) (D.put (litW wd) (.lit (.int .i64 ((mm : Int) + 1)))) → w3.grownBy w' (some gm) → wpList Tryd.prog ops Q rest (a.put o.dst undef) w'), wpList Tryd.prog ops Q (o :: rest) a w3 := by
        intro ops rest o a Q hg hop hm hx hv hK
        exact wpList_mapUpdate_own w3 hg (.tmp 25) (.tmp 26) (.tmp 28) 61 hop 9 3 (Go.Maps.string_keyed Tryd.underlying9) hun (plainElem Tryd.prog 3) gm nm D hm HD.out HMX.out _ _ (litW wd) hx hv HKW.out _ [] HPI.out hK
      go_upto_region 5 with (first | refine hlk rfl rfl rfl rfl ?_ | (refine hup rfl rfl rfl rfl rfl ?_; intro w4 hD4 hG4; have HD4 := Aside0.mk hD4; have HG4 := Aside0.mk hG4; clear hD4 hG4 hlk hup c9))
      have HS4 : Aside0 (PS w0 w4 g T b p 0) := ⟨⟨(HG4.out.block g (blk_lt HS3.out.blk) (fun he => HJ3.out.ng (by cases he; rfl))).trans HS3.out.blk, pw_below_grown HS3.out.bl (some gm) HS3.out.bl.size HG4.out (fun k he => by cases he; exact Nat.le_trans HJ3.out.l0 HJ3.out.lm), HS3.out.gl, HS3.out.tC, HS3.out.tn, HS3.out.tc, HS3.out.tl, HS3.out.al⟩⟩
      have HKG4 : Aside0 (Kept w3 w4 (fun k => k = gm)) := ⟨Kept.of_grown HG4.out (Kept.refl _ _) (fun k he => .inl (by cases he; rfl))⟩
      have HK4 : Aside0 (Kept W w4 (fun k => lo ≤ k)) := ⟨HK3.out.then_ HKG4.out (fun k hk => .inl (hk ▸ HJ3.out.lm))⟩
      have c9 : w4.cell? ⟨g, 9, none⟩ = some (.map (some gm)) := (HS4.out.cell 9).trans (congrArg some HJ3.out.e9)
      have HA4 := Aside0.mk (HU.out w4 HD4.out).2
      have hlk : ∀ {ops : Array Oper} {rest : List Oper} {o : Oper} {a : Act} {Q : Exit → Act → World → Prop} (hg : o.guard = none) (hop : o.op = Op.lookup 61 (.tmp 32) (.tmp 33) false) (hm : a.eval (.tmp 32) = .map (some gm)) (hx : a.eval (.tmp 33) = .string wd) (hK : wpList Tryd.prog ops Q rest (a.put o.dst (.int .i64 ((mm : Int) + 1))) w4), wpList Tryd.prog ops Q (o :: rest) a w4 := by
        intro ops rest o a Q hg hop hm hx hK
        refine wpList_lookup_own_int w4 hg (.tmp 32) (.tmp 33) 61 hop 9 3 .i64 (Go.Maps.string_keyed Tryd.underlying9) hun Tryd.underlying3 (zero_int _) gm (nm + 1) _ hm HD4.out _ (litW wd) hx HKW.out ?_
        intro c hc hwf
        have h9 := hc.symm.trans HA4.out
        obtain rfl : c = (mm : Int) + 1 := by simpa using h9
        exact hK
      have HON : Aside0 (R = if mm + 1 > 1 then .error (10, p0) else restP T b.e (raise st wd) p) := ⟨by rw [HR.out, HMM.out]; exact itemP_once HI1.out HI2.out HTK.out HT2.out⟩
      by_cases hm0 : 1 < mm + 1
      · have l1 : decide ((1 : Int) < (mm : Int) + 1) = true := decide_eq_true (by omega)
        obtain rfl : R = .error (10, p0) := by rw [HON.out, if_pos hm0]
        have HF := fail_calls w0 w4 g T b p 0 10 HS4.out
        rw [← HTK.out] at HF
        have HF := Aside0.mk HF
        go_wp2_with (first | refine hlk rfl rfl rfl rfl ?_ | fail)
        refine HF.out.mono ?_
        rintro e w5 ⟨rfl, hb⟩
        dsimp only
        exact ⟨rfl, rfl, hb⟩
      · have l1 : decide ((1 : Int) < (mm : Int) + 1) = false := decide_eq_false (by omega)
        have HRR : Aside0 (R = restP T b.e (raise st wd) p) := ⟨by rw [HON.out, if_neg hm0]⟩
        have HJ4 : Aside0 (IS w0 w4 lo g b (raise st wd) gm okS okR) := ⟨HJ3.out.raise wd (by rw [← HMM.out]; omega) HKG4.out (HU.out w4 HD4.out).1⟩
        clear hm0 HON hm1
        obtain ⟨st, hst⟩ : ∃ st', st' = raise st wd := ⟨_, rfl⟩
        rw [← hst] at HRR HJ4
        clear hst
        go_upto_region 7 with (first | refine hlk rfl rfl rfl rfl ?_ | fail)
        clear hlk c9 l1 hun HI HR HI1 HI2 HS3 HJ3 HK3 HD HU HKW HA1 HMM HMX HPI HD4 HG4 HKG4 HA4
        rename World => w2
        have HS2 := HS4
        have HJ2 := HJ4
        have HK2 := HK4
        clear HS4 HJ4 HK4
        obtain ⟨it, hit⟩ : ∃ it, it = st.items := ⟨_, rfl⟩
        have hli : (it : Int) ≤ 60 := by have := HJ2.out.lI; omega
        have c8 : w2.cell? ⟨g, 8, none⟩ = some (.int .i64 it) := (HS2.out.cell 8).trans (by rw [hit]; exact congrArg some HJ2.out.e8)
        have f8 := blk_frozen HS2.out.blk 8
        have HIT := Aside0.mk hit
        clear hit
        go_upto_region 8 with (fail)
        obtain ⟨w3, hw3⟩ : ∃ w3, w3 = w2.setCell ⟨g, 8, none⟩ (.int .i64 ((it : Int) + 1)) := ⟨_, rfl⟩
        rw [← hw3]
        have HS3 : Aside0 (PS w0 w3 g T { b with v8 := .int .i64 ((it : Int) + 1) } p 0) := ⟨by rw [hw3]; exact ⟨blk_set HS2.out.blk 8 _, HS2.out.bl.setCell (p := ⟨g, 8, none⟩) HS2.out.gl _, HS2.out.gl, HS2.out.tC, HS2.out.tn, HS2.out.tc, HS2.out.tl, HS2.out.al⟩⟩
        have HKR3 : Aside0 (Kept w2 w3 (fun k => k = g)) := ⟨by rw [hw3]; exact Kept.setCell (S := fun k => k = g) (p := ⟨g, 8, none⟩) (Kept.refl _ _) (.inl rfl) _⟩
        have HK3 : Aside0 (Kept W w3 (fun k => lo ≤ k)) := ⟨HK2.out.then_ HKR3.out (fun k hk => .inl (hk ▸ HJ2.out.lg))⟩
        clear hw3 c8 f8
        have c8 : w3.cell? ⟨g, 8, none⟩ = some (.int .i64 ((it : Int) + 1)) := HS3.out.cell 8
        by_cases hbig : 60 < it + 1
        · have l1 : decide ((60 : Int) < (it : Int) + 1) = true := decide_eq_true (by omega)
          obtain rfl : R = .error (2, (nxt T b.e p).f1) := by rw [HRR.out, restP, if_pos (by rw [← HIT.out]; exact hbig)]
          have HF := Aside0.mk (fail_calls w0 w3 g T _ p 0 2 HS3.out)
          go_wp2_with fail
          refine HF.out.mono ?_
          rintro e w4 ⟨rfl, hb⟩
          dsimp only
          exact ⟨rfl, rfl, hb⟩
        · have l1 : decide ((60 : Int) < (it : Int) + 1) = false := decide_eq_false (by omega)
          have HJ3 : Aside0 (IS w0 w3 lo g { b with v8 := .int .i64 ((it : Int) + 1) } { st with items := st.items + 1 } gm okS okR) := ⟨by rw [HIT.out]; exact (HJ2.out.kept HKR3.out).count (by rw [← HIT.out]; omega)⟩
          have h4 := take_calls w0 w3 g T _ p 0 1 HS3.out (by decide)
          obtain ⟨r4, hr4⟩ : ∃ r4, r4 = takeP T b.e 1 p := ⟨_, rfl⟩
          dsimp only at h4
          rw [← hr4] at h4
          have HRK : Aside0 (R = restK T b.e st r4) := ⟨by rw [HRR.out, restP_le (by rw [← HIT.out]; exact hbig), ← hr4]⟩
          have H4 := Aside0.mk h4
          have HR4 := Aside0.mk hr4
          clear h4 hr4 hbig HRR
          go_wp2_with fail
          refine H4.out.mono ?_
          cases r4 with
          | error x =>
            obtain rfl : R = .error x := HRK.out
            rintro e w4 ⟨rfl, hb⟩
            dsimp only
            exact ⟨rfl, rfl, hb⟩
          | ok x =>
            obtain ⟨w, q⟩ := x
            rintro e w4 ⟨v, rfl, rfl, hs4, hk4⟩
            dsimp only
            have HS4 := Aside0.mk hs4
            have HJ4 := Aside0.mk (HJ3.out.kept hk4)
            have HK4 : Aside0 (Kept W w4 (fun k => lo ≤ k)) := ⟨HK3.out.then_ hk4 (fun k hk => .inl (hk ▸ HJ2.out.lg))⟩
            obtain ⟨b4, hb4⟩ : ∃ b4, b4 = ({ b with v8 := .int .i64 ((it : Int) + 1) } : Pb) := ⟨_, rfl⟩
            rw [← hb4] at HS4 HJ4
            have HBA : Aside0 (b4.A = b.A ∧ b4.n = b.n ∧ b4.c = b.c ∧ b4.e = b.e) := ⟨by rw [hb4]; exact ⟨rfl, rfl, rfl, rfl⟩⟩
            clear hs4 hk4 hb4 c8 l1 hli
            obtain ⟨s4, hs4⟩ : ∃ s4, s4 = ({ st with items := st.items + 1 } : Pst) := ⟨_, rfl⟩
            have HRW : Aside0 (R = itemK T b.e s4 w q) := ⟨by rw [hs4]; exact HRK.out⟩
            rw [← hs4] at HJ4
            have HLN : Aside0 (s4.csp.length + 1 ≤ s4.items ∧ s4.shares.length + 1 ≤ s4.items ∧ s4.rules.length + 1 ≤ s4.items) := ⟨by rw [hs4]; exact ⟨Nat.succ_le_succ HJ2.out.lC, Nat.succ_le_succ HJ2.out.lS, Nat.succ_le_succ HJ2.out.lR⟩⟩
            clear hs4 HRK H4 HR4 HS3 HJ3 HK3 HKR3 HS2 HJ2 HK2 HIT
            by_cases hw0 : w = wCsp
            · have t0 : (w.toList == [99, 115, 112]) = true := (eq_word (w := w) (a := wCsp) (by decide +kernel)).trans (decide_eq_true hw0)
              have h7 := take_calls w0 w4.drew g T b4 q 0 2 (HS4.out.below (below_drew (Below.refl _ _))) (by decide)
              rw [HBA.out.2.2.2] at h7
              obtain ⟨r7, hr7⟩ : ∃ r7, r7 = takeP T b.e 2 q := ⟨_, rfl⟩
              rw [← hr7] at h7
              have HRX : Aside0 (R = cspK s4 r7) := ⟨by rw [HRW.out, itemK_csp hw0, ← hr7]⟩
              have H7 := Aside0.mk h7
              have HJD : Aside0 (IS w0 w4.drew lo g b4 s4 gm okS okR) := ⟨HJ4.out.kept (Kept.of_below (below_drew (Below.refl _ _)) _)⟩
              have HKD : Aside0 (Kept W w4.drew (fun k => lo ≤ k)) := ⟨HK4.out⟩
              have HLB : Aside0 ((s4.csp.length + 1) * 16 ≤ 140737488355328) := ⟨by have := HLN.out.1; have := HJ4.out.lI; omega⟩
              have d1 : w4.drew.cell? ⟨g, 3, none⟩ = some b4.v3 := HS4.out.cell 3
              clear h7 hr7 hw0 HRW HJ4 HK4
              go_upto_region 15 with (fail)
              refine start_ (n := 14) (S := fun w' => w'.cell? ⟨g, 3, none⟩ = some b4.v3) (ds := [9, 13]) #[false, false, false, false, false, false, false, false, false, false, false, false, false, false] (by kernel_rfl) rfl rfl (d1) (fun hHeld => ?_)
              refine pure_ (i := 0) (N := some 76) (v := ?_) (a' := ?_) #[true, false, false, false, false, false, false, false, false, false, false, false, false, false] rfl rfl (by kernel_rfl) (fun _ _ _ h => h) (Or.inl ⟨by rfl, ?_⟩) ?_ ?_
              rotate_left
              · intro w'
                go_simp
                with_reducible rfl
              rotate_left
              · simp only [Act.put, List.setIfInBounds_toArray, List.set_cons_zero, List.set_cons_succ, i64_w, i32_w]
                rfl
              refine pure_ (i := 1) (N := some 77) (v := ?_) (a' := ?_) #[true, true, false, false, false, false, false, false, false, false, false, false, false, false] rfl rfl (by kernel_rfl) (fun _ _ _ h => h) (Or.inl ⟨by rfl, ?_⟩) ?_ ?_
              rotate_left
              · intro w'
                go_simp
                with_reducible rfl
              rotate_left
              · simp only [Act.put, List.setIfInBounds_toArray, List.set_cons_zero, List.set_cons_succ, i64_w, i32_w]
                rfl
              refine pure_ (i := 2) (N := some 78) (v := ?_) (a' := ?_) #[true, true, true, false, false, false, false, false, false, false, false, false, false, false] rfl rfl (by kernel_rfl) (fun _ _ _ h => h) (Or.inl ⟨by rfl, ?_⟩) ?_ ?_
              rotate_left
              · intro w'
                go_simp
                with_reducible rfl
              rotate_left
              · simp only [Act.put, List.setIfInBounds_toArray, List.set_cons_zero, List.set_cons_succ, i64_w, i32_w]
                rfl
              refine pure_ (i := 3) (N := some 79) (v := ?_) (a' := ?_) #[true, true, true, true, false, false, false, false, false, false, false, false, false, false] rfl rfl (by kernel_rfl) (fun _ _ _ h => h) (Or.inl ⟨by rfl, ?_⟩) ?_ ?_
              rotate_left
              · intro w'
                go_simp
                with_reducible rfl
              rotate_left
              · simp only [Act.put, List.setIfInBounds_toArray, List.set_cons_zero, List.set_cons_succ, i64_w, i32_w]
                rfl
              refine pure_ (i := 4) (N := some 80) (v := ?_) (a' := ?_) #[true, true, true, true, true, false, false, false, false, false, false, false, false, false] rfl rfl (by kernel_rfl) (fun _ _ _ h => h) (Or.inl ⟨by rfl, ?_⟩) ?_ ?_
              rotate_left
              · intro w'
                go_simp
                with_reducible rfl
              rotate_left
              · simp only [Act.put, List.setIfInBounds_toArray, List.set_cons_zero, List.set_cons_succ, i64_w, i32_w]
                rfl
              refine pure_ (i := 6) (N := some 82) (v := ?_) (a' := ?_) #[true, true, true, true, true, false, true, false, false, false, false, false, false, false] rfl rfl (by kernel_rfl) (fun _ _ _ h => h) (Or.inl ⟨by rfl, ?_⟩) ?_ ?_
              rotate_left
              · intro w'
                go_simp
                with_reducible rfl
              rotate_left
              · simp only [Act.put, List.setIfInBounds_toArray, List.set_cons_zero, List.set_cons_succ, i64_w, i32_w]
                rfl
              refine take_ (i := 5) (N := some 81) (v := ?_) (a' := ?_) #[true, true, true, true, true, true, true, false, false, false, false, false, false, false] rfl rfl (by kernel_rfl) (fun _ _ _ h => h) (Or.inl ⟨by rfl, ?_⟩) hHeld ?_ ?_
              rotate_left
              · intro w' s0
                go_simp
                with_reducible rfl
              rotate_left
              · simp only [Act.put, List.setIfInBounds_toArray, List.set_cons_zero, List.set_cons_succ, i64_w, i32_w]
                rfl
              refine one_ (i := 7) (N := some 83) #[true, true, true, true, true, true, true, true, false, false, false, false, false, false] rfl rfl (by kernel_rfl) (by decide) (fun K hK => ?_)
              refine goesP_ Tryd.func22 (by kernel_rfl) rfl #[.pointer (some ⟨g, 0, none⟩), .int .i64 2] (by rfl) rfl rfl (by simp only [List.map_toArray, List.map_cons, List.map_nil]; rfl) ?_
              refine H7.out.mono ?_
              rcases r7 with x | ⟨t, q7⟩
              · rintro e w7 ⟨rfl, hb⟩
                refine .inr ⟨_, rfl, ?_⟩
                obtain rfl : R = .error x := HRX.out
                exact ⟨rfl, rfl, hb⟩
              rintro e w7 ⟨v7, rfl, rfl, hs7, hk7⟩
              refine .inl ⟨_, rfl, ?_⟩
              have HS7 := Aside0.mk hs7
              have HJ7 := Aside0.mk (HJD.out.kept hk7)
              have HK7 : Aside0 (Kept W w7 (fun k => lo ≤ k)) := ⟨HKD.out.then_ hk7 (fun k hk => .inl (hk ▸ HJD.out.lg))⟩
              obtain rfl : R = .ok ({ s4 with csp := s4.csp ++ [t] }, q7) := HRX.out
              clear hs7 hk7 HS4 HJD HKD HRX
              refine hK.out _ _ ((HS7.out.cell 3)) (fun hHeld => ?_)
              clear hK K
              refine norm_ (a' := ?_) ?_ ?_
              rotate_left
              · show Act.put _ (some 83) _ = _
                simp only [Act.put, List.setIfInBounds_toArray, List.set_cons_zero, List.set_cons_succ, i64_w, i32_w]
                rfl
              refine one_ (i := 8) (N := some 84) #[true, true, true, true, true, true, true, true, true, false, false, false, false, false] rfl rfl (by kernel_rfl) (by decide) (fun K hK => ?_)
              refine value_ (w1 := ?_) (v := ?_) (by rfl) rfl ?_ ?_
              rotate_left 2
              · go_simp
                constructor
                · rfl
                · rfl
              refine hK.out _ _ ((blk_cell (show (w7.alloc _).heap[g]? = _ from blk_alloc HS7.out.blk _) 3)) (fun hHeld => ?_)
              clear hK K
              refine norm_ (a' := ?_) ?_ ?_
              rotate_left
              · show Act.put _ (some 84) _ = _
                simp only [Act.put, List.setIfInBounds_toArray, List.set_cons_zero, List.set_cons_succ, i64_w, i32_w]
                rfl
              refine last_ (i := 9) (N := some 85) #[true, true, true, true, true, true, true, true, true, true, false, false, false, false] rfl rfl (by kernel_rfl) (by decide) (fun K hK => ?_)
              refine Kd.R_append_step Kd.string (w0 := w0) (W := w7) w0.heap.size (by rfl) _ _ 23 9 (.string ⟨#[]⟩) 16 rfl Tryd.underlying23 info_str rfl (by decide) (by decide) b4.v3 s4.csp t [.string t] (fun _ => True) (fun _ => False) rfl rfl rfl (fun _ hk => hk.elim) (fun _ _ => trivial) HJ7.out.rC HS7.out.bl HS7.out.bl.size HLB.out ?_
              intro v9 w9 hO9 hB9 hG9 hat9
              have hp9 : w9.heap[g]? = some (.cells (pcells b4 q7 0) 63 (0, 0)) := (hG9.block g (blk_lt HS7.out.blk) (fun he => (HJ7.out.dC g he.symm).2.1 rfl)).trans HS7.out.blk
              have hng : ∀ k, some k = v9.ownBlock → k ≠ g := fun k he hg => by
                rcases hat9 with h | ⟨k2, h, h2⟩
                · exact (HJ7.out.dC k (h.symm.trans he.symm)).2.1 hg
                · rw [h] at he; cases he; have := blk_lt HS7.out.blk; omega
              have HE : Aside0 (ItemQ w0 W lo g T b gm (.ok ({ s4 with csp := s4.csp ++ [t] }, q7)) (.returned (.tuple #[])) (w9.setCell ⟨g, 3, none⟩ v9)) := ⟨⟨rfl, { b4 with v3 := v9 }, _, _, HBA.out.1, HBA.out.2.1, HBA.out.2.2.1, HBA.out.2.2.2, ⟨blk_set hp9 3 _, hB9.setCell (p := ⟨g, 3, none⟩) HS7.out.gl _, HS7.out.gl, HS7.out.tC, HS7.out.tn, HS7.out.tc, HS7.out.tl, HS7.out.al⟩, HJ7.out.csp (blk_lt HS7.out.blk) (Kd.R_mono (Kd.R_far (Kd.R_tight rfl hO9) (p := ⟨g, 3, none⟩) hng _) (fun _ _ => trivial)) hat9 (Kept.setCell (S := fun k => k = g ∨ b4.v3.ownBlock = some k) (p := ⟨g, 3, none⟩) (Kept.of_grown hG9 (Kept.refl _ _) (fun k hk => .inl (.inr hk))) (.inl (.inl rfl)) _) HLN.out.1, HK7.out.then_ (HJ7.out.lo3 (Kept.setCell (S := fun k => k = g ∨ b4.v3.ownBlock = some k) (p := ⟨g, 3, none⟩) (Kept.of_grown hG9 (Kept.refl _ _) (fun k hk => .inl (.inr hk))) (.inl (.inl rfl)) _)) (fun k hk => .inl hk)⟩⟩
              obtain ⟨A9, c9, e9⟩ := Kd.R_slice hO9
              obtain ⟨n9, hn9⟩ : ∃ n9, n9 = (s4.csp ++ [t]).length := ⟨_, rfl⟩
              rw [← hn9] at e9
              subst e9
              have e4 : w9.cell? ⟨g, 3, none⟩ = some b4.v3 := blk_cell hp9 3
              have f4 := blk_frozen hp9 3
              clear hO9 hB9 hG9 hat9 hp9 hn9 hng
              refine hK.out _ _ ?_
              clear hK K
              refine norm_ (a' := ?_) ?_ ?_
              rotate_left
              · show Act.put _ (some 85) _ = _
                simp only [Act.put, List.setIfInBounds_toArray, List.set_cons_zero, List.set_cons_succ, i64_w, i32_w]
                rfl
              refine pure_ (i := 10) (N := some 86) (v := ?_) (a' := ?_) #[true, true, true, true, true, true, true, true, true, true, true, false, false, false] rfl rfl (by kernel_rfl) (fun _ _ _ h => h) (Or.inl ⟨by rfl, ?_⟩) ?_ ?_
              rotate_left
              · intro w'
                go_simp
                with_reducible rfl
              rotate_left
              · simp only [Act.put, List.setIfInBounds_toArray, List.set_cons_zero, List.set_cons_succ, i64_w, i32_w]
                rfl
              refine pure_ (i := 11) (N := some 87) (v := ?_) (a' := ?_) #[true, true, true, true, true, true, true, true, true, true, true, true, false, false] rfl rfl (by kernel_rfl) (fun _ _ _ h => h) (Or.inl ⟨by rfl, ?_⟩) ?_ ?_
              rotate_left
              · intro w'
                go_simp
                with_reducible rfl
              rotate_left
              · simp only [Act.put, List.setIfInBounds_toArray, List.set_cons_zero, List.set_cons_succ, i64_w, i32_w]
                rfl
              refine pure_ (i := 12) (N := some 88) (v := ?_) (a' := ?_) #[true, true, true, true, true, true, true, true, true, true, true, true, true, false] rfl rfl (by kernel_rfl) (fun _ _ _ h => h) (Or.inl ⟨by rfl, ?_⟩) ?_ ?_
              rotate_left
              · intro w'
                go_simp
                with_reducible rfl
              rotate_left
              · simp only [Act.put, List.setIfInBounds_toArray, List.set_cons_zero, List.set_cons_succ, i64_w, i32_w]
                rfl
              refine last_ (i := 13) (N := none) #[true, true, true, true, true, true, true, true, true, true, true, true, true, true] rfl rfl (by kernel_rfl) (by decide) (fun K hK => ?_)
              refine skip_ (w1 := ?_) (by rfl) rfl ?_ ?_
              rotate_left
              · go_simp
                rfl
              refine hK.out _ _ ?_
              clear hK K
              refine done_ (by kernel_rfl) ?_

              go_wp2
              exact ⟨rfl, .tuple #[], by simp [results, Tryd.results21], HE.out⟩
            · have t0 : (w.toList == [99, 115, 112]) = false := (eq_word (w := w) (a := wCsp) (by decide +kernel)).trans (decide_eq_false hw0)
              by_cases hw1 : w = wShare
              · have t1 : (w.toList == [115, 104, 97, 114, 101]) = true := (eq_word (w := w) (a := wShare) (by decide +kernel)).trans (decide_eq_true hw1)
                have h5 := share_calls w0 w4 g T b4 q 0 HS4.out (fun k => okS k ∨ w4.heap.size ≤ k) s4.shares (Kd.R_mono HJ4.out.rS (fun k hk => .inl hk)) (fun k hk => .inr hk) (by rintro (hg | hg); exact (HJ4.out.bS g hg).2.2.1 rfl; have := blk_lt HS4.out.blk; omega) (by have := HJ4.out.lS; have := HJ4.out.lI; omega)
                rw [HBA.out.2.2.2] at h5
                obtain ⟨r5, hr5⟩ : ∃ r5, r5 = shareP T b.e q := ⟨_, rfl⟩
                rw [← hr5] at h5
                have HRX : Aside0 (R = shaK s4 r5) := ⟨by rw [HRW.out, itemK_share hw0 hw1, ← hr5]⟩
                have H5 := Aside0.mk h5
                clear h5 hr5 hw0 hw1 HRW
                go_wp2_with fail
                refine H5.out.mono ?_
                cases r5 with
                | error x =>
                  obtain rfl : R = .error x := HRX.out
                  rintro e w5 ⟨rfl, hb⟩
                  dsimp only
                  exact ⟨rfl, rfl, hb⟩
                | ok x =>
                  obtain ⟨h5, q5⟩ := x
                  obtain rfl : R = .ok ({ s4 with shares := s4.shares ++ [h5] }, q5) := HRX.out
                  rintro e w5 ⟨rfl, v5, hs5, hr5, hk5⟩
                  dsimp only
                  have HE : Aside0 (ItemQ w0 W lo g T b gm (.ok ({ s4 with shares := s4.shares ++ [h5] }, q5)) (.returned (.tuple #[])) w5) := ⟨⟨rfl, { b4 with v4 := v5 }, _, _, HBA.out.1, HBA.out.2.1, HBA.out.2.2.1, HBA.out.2.2.2, hs5, HJ4.out.share (blk_lt HS4.out.blk) hr5 hk5 HLN.out.2.1, HK4.out.then_ (HJ4.out.lo4 hk5) (fun k hk => .inl hk)⟩⟩
                  clear hs5 hr5 hk5
                  go_wp2
                  exact ⟨rfl, .tuple #[], by simp [results, Tryd.results21], HE.out⟩
              · have t1 : (w.toList == [115, 104, 97, 114, 101]) = false := (eq_word (w := w) (a := wShare) (by decide +kernel)).trans (decide_eq_false hw1)
                by_cases hw2 : w = wMixed
                · have t2 : (w.toList == [109, 105, 120, 101, 100]) = true := (eq_word (w := w) (a := wMixed) (by decide +kernel)).trans (decide_eq_true hw2)
                  have h5 := word_calls w0 (w4.alloc (.cells #[.string wBlock, .string wUpgrade, .string wAllow] 9)) g T b4 q 0 (HS4.out.below (below_alloc (Below.refl _ _) _)) (some ⟨w4.heap.size, 0, none⟩) 3 3 [wBlock, wUpgrade, wAllow] (lit_strs w4 [wBlock, wUpgrade, wAllow] (by simp)) rfl (Nat.le_refl _) (by simp)
                  rw [HBA.out.2.2.2] at h5
                  obtain ⟨r5, hr5⟩ : ∃ r5, r5 = wordP T b.e [wBlock, wUpgrade, wAllow] q := ⟨_, rfl⟩
                  rw [← hr5] at h5
                  have HRX : Aside0 (R = mixK s4 r5) := ⟨by rw [HRW.out, itemK_mixed hw0 hw1 hw2, ← hr5]⟩
                  have H5 := Aside0.mk h5
                  clear h5 hr5 hw0 hw1 hw2 HRW
                  go_wp2_with fail
                  refine H5.out.mono ?_
                  cases r5 with
                  | error x =>
                    obtain rfl : R = .error x := HRX.out
                    rintro e w5 ⟨rfl, hb⟩
                    dsimp only
                    exact ⟨rfl, rfl, hb⟩
                  | ok x =>
                    obtain ⟨t, q5⟩ := x
                    obtain rfl : R = .ok ({ s4 with mixed := t }, q5) := HRX.out
                    rintro e w5 ⟨v5, rfl, rfl, hs5, hk5⟩
                    dsimp only
                    have hkw : Kept w4 w5 (fun k => k = g) := (Kept.alloc (Kept.refl _ _) _).then_ hk5 (fun k hk => .inl hk)
                    have hkw2 : Kept w4 (w5.setCell ⟨g, 5, none⟩ (.string t)) (fun k => k = g) := Kept.setCell (S := fun k => k = g) (p := ⟨g, 5, none⟩) hkw (.inl rfl) _
                    have HE : Aside0 (ItemQ w0 W lo g T b gm (.ok ({ s4 with mixed := t }, q5)) (.returned (.tuple #[])) (w5.setCell ⟨g, 5, none⟩ (.string t))) := ⟨⟨rfl, { b4 with v5 := .string t }, _, _, HBA.out.1, HBA.out.2.1, HBA.out.2.2.1, HBA.out.2.2.2, ⟨blk_set hs5.blk 5 _, hs5.bl.setCell (p := ⟨g, 5, none⟩) hs5.gl _, hs5.gl, hs5.tC, hs5.tn, hs5.tc, hs5.tl, hs5.al⟩, (HJ4.out.kept hkw2).mix t, HK4.out.then_ hkw2 (fun k hk => .inl (hk ▸ HJ4.out.lg))⟩⟩
                    have e5 : w5.cell? ⟨g, 5, none⟩ = some b4.v5 := hs5.cell 5
                    rw [HJ4.out.e5] at e5
                    have f5 := blk_frozen hs5.blk 5
                    clear hs5 hk5 hkw hkw2
                    go_wp2
                    exact ⟨rfl, .tuple #[], by simp [results, Tryd.results21], HE.out⟩
                · have t2 : (w.toList == [109, 105, 120, 101, 100]) = false := (eq_word (w := w) (a := wMixed) (by decide +kernel)).trans (decide_eq_false hw2)
                  by_cases hw3 : w = wDefault
                  · have t3 : (w.toList == [100, 101, 102, 97, 117, 108, 116]) = true := (eq_word (w := w) (a := wDefault) (by decide +kernel)).trans (decide_eq_true hw3)
                    have h5 := word_calls w0 (w4.alloc (.cells #[.string wAllow, .string wDeny] 9)) g T b4 q 0 (HS4.out.below (below_alloc (Below.refl _ _) _)) (some ⟨w4.heap.size, 0, none⟩) 2 2 [wAllow, wDeny] (lit_strs w4 [wAllow, wDeny] (by simp)) rfl (Nat.le_refl _) (by simp)
                    rw [HBA.out.2.2.2] at h5
                    obtain ⟨r5, hr5⟩ : ∃ r5, r5 = wordP T b.e [wAllow, wDeny] q := ⟨_, rfl⟩
                    rw [← hr5] at h5
                    have HRX : Aside0 (R = defK s4 r5) := ⟨by rw [HRW.out, itemK_default hw0 hw1 hw2 hw3, ← hr5]⟩
                    have H5 := Aside0.mk h5
                    clear h5 hr5 hw0 hw1 hw2 hw3 HRW
                    go_wp2_with fail
                    refine H5.out.mono ?_
                    cases r5 with
                    | error x =>
                      obtain rfl : R = .error x := HRX.out
                      rintro e w5 ⟨rfl, hb⟩
                      dsimp only
                      exact ⟨rfl, rfl, hb⟩
                    | ok x =>
                      obtain ⟨t, q5⟩ := x
                      rintro e w5 ⟨v5, rfl, rfl, hs5, hk5⟩
                      dsimp only
                      have hkw : Kept w4 w5 (fun k => k = g) := (Kept.alloc (Kept.refl _ _) _).then_ hk5 (fun k hk => .inl hk)
                      obtain ⟨x, hx⟩ : ∃ x, x = decide (t = wAllow) := ⟨_, rfl⟩
                      obtain rfl : R = .ok ({ s4 with allow := x }, q5) := by rw [hx]; exact HRX.out
                      have tA : (t.toList == [97, 108, 108, 111, 119]) = x := (eq_word (w := t) (a := wAllow) (by decide +kernel)).trans hx.symm
                      have hkw2 : Kept w4 (w5.setCell ⟨g, 7, none⟩ (.bool x)) (fun k => k = g) := Kept.setCell (S := fun k => k = g) (p := ⟨g, 7, none⟩) hkw (.inl rfl) _
                      have HE : Aside0 (ItemQ w0 W lo g T b gm (.ok ({ s4 with allow := x }, q5)) (.returned (.tuple #[])) (w5.setCell ⟨g, 7, none⟩ (.bool x))) := ⟨⟨rfl, { b4 with v7 := .bool x }, _, _, HBA.out.1, HBA.out.2.1, HBA.out.2.2.1, HBA.out.2.2.2, ⟨blk_set hs5.blk 7 _, hs5.bl.setCell (p := ⟨g, 7, none⟩) hs5.gl _, hs5.gl, hs5.tC, hs5.tn, hs5.tc, hs5.tl, hs5.al⟩, (HJ4.out.kept hkw2).dflt x, HK4.out.then_ hkw2 (fun k hk => .inl (hk ▸ HJ4.out.lg))⟩⟩
                      have e5 : w5.cell? ⟨g, 7, none⟩ = some b4.v7 := hs5.cell 7
                      rw [HJ4.out.e7] at e5
                      have f5 := blk_frozen hs5.blk 7
                      clear hs5 hk5 hkw hkw2 hx
                      go_wp2
                      exact ⟨rfl, .tuple #[], by simp [results, Tryd.results21], HE.out⟩
                  · have t3 : (w.toList == [100, 101, 102, 97, 117, 108, 116]) = false := (eq_word (w := w) (a := wDefault) (by decide +kernel)).trans (decide_eq_false hw3)
                    have h5 := word_calls w0 (w4.alloc (.cells #[.string wIf] 9)) g T b4 q 0 (HS4.out.below (below_alloc (Below.refl _ _) _)) (some ⟨w4.heap.size, 0, none⟩) 1 1 [wIf] (lit_strs w4 [wIf] (by simp)) rfl (Nat.le_refl _) (by simp)
                    rw [HBA.out.2.2.2] at h5
                    obtain ⟨r5, hr5⟩ : ∃ r5, r5 = wordP T b.e [wIf] q := ⟨_, rfl⟩
                    rw [← hr5] at h5
                    have HRX : Aside0 (R = ifK T b.e s4 w r5) := ⟨by rw [HRW.out, itemK_rule hw0 hw1 hw2 hw3, ← hr5]⟩
                    have H5 := Aside0.mk h5
                    clear h5 hr5 hw0 hw1 hw2 hw3 HRW
                    go_wp2_with fail
                    refine H5.out.mono ?_
                    cases r5 with
                    | error x =>
                      obtain rfl : R = .error x := HRX.out
                      rintro e w5 ⟨rfl, hb⟩
                      dsimp only
                      exact ⟨rfl, rfl, hb⟩
                    | ok x =>
                      obtain ⟨t, q5⟩ := x
                      rintro e w5 ⟨v5, rfl, rfl, hs5, hk5⟩
                      dsimp only
                      have hkw : Kept w4 w5 (fun k => k = g) := (Kept.alloc (Kept.refl _ _) _).then_ hk5 (fun k hk => .inl hk)
                      obtain ⟨y, hy⟩ : ∃ y, y = decide (w = wAllow) := ⟨_, rfl⟩
                      have tA : (w.toList == [97, 108, 108, 111, 119]) = y := (eq_word (w := w) (a := wAllow) (by decide +kernel)).trans hy.symm
                      have HS5 := Aside0.mk hs5
                      have HJ5 := Aside0.mk (HJ4.out.kept hkw)
                      have HK5 : Aside0 (Kept W w5 (fun k => lo ≤ k)) := ⟨HK4.out.then_ hkw (fun k hk => .inl (hk ▸ HJ4.out.lg))⟩
                      have h7 := cond_calls w0 w5.drew g T b4 q5 (HS5.out.below (below_drew (Below.refl _ _))) HSZ.out
                      rw [HBA.out.2.2.2] at h7
                      obtain ⟨r7, hr7⟩ : ∃ r7, r7 = condP T b.e q5 := ⟨_, rfl⟩
                      rw [← hr7] at h7
                      have HRY : Aside0 (R = ruleK s4 w r7) := ⟨by rw [HRX.out, hr7]; rfl⟩
                      have H7 := Aside0.mk h7
                      have HY := Aside0.mk hy
                      have HJD : Aside0 (IS w0 w5.drew lo g b4 s4 gm okS okR) := ⟨HJ5.out.kept (Kept.of_below (below_drew (Below.refl _ _)) _)⟩
                      have HKD : Aside0 (Kept W w5.drew (fun k => lo ≤ k)) := ⟨HK5.out⟩
                      have HGD : Aside0 (g < w5.drew.heap.size) := ⟨blk_lt HS5.out.blk⟩
                      have HLB : Aside0 ((s4.rules.length + 1) * 72 ≤ 140737488355328) := ⟨by have := HLN.out.2.2; have := HJ4.out.lI; omega⟩
                      have d1 : w5.drew.cell? ⟨g, 6, none⟩ = some b4.v6 := HS5.out.cell 6
                      clear h7 hr7 hy hs5 hk5 hkw HJ4 HJ5 HK4 HK5 HS4 HRX H5
                      go_upto_region 13 with (fail)
                      refine start_ (n := 17) (S := fun w' => w'.cell? ⟨g, 6, none⟩ = some b4.v6) (ds := [12, 16]) #[false, false, false, false, false, false, false, false, false, false, false, false, false, false, false, false, false] (by kernel_rfl) rfl rfl (d1) (fun hHeld => ?_)
                      refine pure_ (i := 0) (N := some 58) (v := ?_) (a' := ?_) #[true, false, false, false, false, false, false, false, false, false, false, false, false, false, false, false, false] rfl rfl (by kernel_rfl) (fun _ _ _ h => h) (Or.inl ⟨by rfl, ?_⟩) ?_ ?_
                      rotate_left
                      · intro w'
                        go_simp
                        with_reducible rfl
                      rotate_left
                      · simp only [Act.put, List.setIfInBounds_toArray, List.set_cons_zero, List.set_cons_succ, i64_w, i32_w]
                        rfl
                      refine pure_ (i := 1) (N := some 59) (v := ?_) (a' := ?_) #[true, true, false, false, false, false, false, false, false, false, false, false, false, false, false, false, false] rfl rfl (by kernel_rfl) (fun _ _ _ h => h) (Or.inl ⟨by rfl, ?_⟩) ?_ ?_
                      rotate_left
                      · intro w'
                        go_simp
                        with_reducible rfl
                      rotate_left
                      · simp only [Act.put, List.setIfInBounds_toArray, List.set_cons_zero, List.set_cons_succ, i64_w, i32_w]
                        rfl
                      refine pure_ (i := 2) (N := some 60) (v := ?_) (a' := ?_) #[true, true, true, false, false, false, false, false, false, false, false, false, false, false, false, false, false] rfl rfl (by kernel_rfl) (fun _ _ _ h => h) (Or.inl ⟨by rfl, ?_⟩) ?_ ?_
                      rotate_left
                      · intro w'
                        go_simp
                        with_reducible rfl
                      rotate_left
                      · simp only [Act.put, List.setIfInBounds_toArray, List.set_cons_zero, List.set_cons_succ, i64_w, i32_w]
                        rfl
                      refine pure_ (i := 3) (N := some 61) (v := ?_) (a' := ?_) #[true, true, true, true, false, false, false, false, false, false, false, false, false, false, false, false, false] rfl rfl (by kernel_rfl) (fun _ _ _ h => h) (Or.inl ⟨by rfl, ?_⟩) ?_ ?_
                      rotate_left
                      · intro w'
                        go_simp
                        with_reducible rfl
                      rotate_left
                      · simp only [Act.put, List.setIfInBounds_toArray, List.set_cons_zero, List.set_cons_succ, i64_w, i32_w]
                        rfl
                      refine pure_ (i := 4) (N := some 62) (v := ?_) (a' := ?_) #[true, true, true, true, true, false, false, false, false, false, false, false, false, false, false, false, false] rfl rfl (by kernel_rfl) (fun _ _ _ h => h) (Or.inl ⟨by rfl, ?_⟩) ?_ ?_
                      rotate_left
                      · intro w'
                        go_simp
                        with_reducible rfl
                      rotate_left
                      · simp only [Act.put, List.setIfInBounds_toArray, List.set_cons_zero, List.set_cons_succ, i64_w, i32_w]
                        rfl
                      refine pure_ (i := 6) (N := some 64) (v := ?_) (a' := ?_) #[true, true, true, true, true, false, true, false, false, false, false, false, false, false, false, false, false] rfl rfl (by kernel_rfl) (fun _ _ _ h => h) (Or.inl ⟨by rfl, ?_⟩) ?_ ?_
                      rotate_left
                      · intro w'
                        go_simp
                        with_reducible rfl
                      rotate_left
                      · simp only [Act.put, List.setIfInBounds_toArray, List.set_cons_zero, List.set_cons_succ, i64_w, i32_w]
                        rfl
                      refine pure_ (i := 7) (N := some 65) (v := ?_) (a' := ?_) #[true, true, true, true, true, false, true, true, false, false, false, false, false, false, false, false, false] rfl rfl (by kernel_rfl) (fun _ _ _ h => h) (Or.inl ⟨by rfl, ?_⟩) ?_ ?_
                      rotate_left
                      · intro w'
                        go_simp
                        with_reducible rfl
                      rotate_left
                      · simp only [Act.put, List.setIfInBounds_toArray, List.set_cons_zero, List.set_cons_succ, i64_w, i32_w]
                        rfl
                      refine pure_ (i := 8) (N := some 66) (v := ?_) (a' := ?_) #[true, true, true, true, true, false, true, true, true, false, false, false, false, false, false, false, false] rfl rfl (by kernel_rfl) (fun _ _ _ h => h) (Or.inl ⟨by rfl, ?_⟩) ?_ ?_
                      rotate_left
                      · intro w'
                        go_simp
                        with_reducible rfl
                      rotate_left
                      · simp only [Act.put, List.setIfInBounds_toArray, List.set_cons_zero, List.set_cons_succ, i64_w, i32_w]
                        rfl
                      refine take_ (i := 5) (N := some 63) (v := ?_) (a' := ?_) #[true, true, true, true, true, true, true, true, true, false, false, false, false, false, false, false, false] rfl rfl (by kernel_rfl) (fun _ _ _ h => h) (Or.inl ⟨by rfl, ?_⟩) hHeld ?_ ?_
                      rotate_left
                      · intro w' s0
                        go_simp
                        with_reducible rfl
                      rotate_left
                      · simp only [Act.put, List.setIfInBounds_toArray, List.set_cons_zero, List.set_cons_succ, i64_w, i32_w]
                        rfl
                      refine one_ (i := 9) (N := some 67) #[true, true, true, true, true, true, true, true, true, true, false, false, false, false, false, false, false] rfl rfl (by kernel_rfl) (by decide) (fun K hK => ?_)
                      refine goesP_ Tryd.func50 (by kernel_rfl) rfl #[.pointer (some ⟨g, 0, none⟩)] (by rfl) rfl rfl (by simp only [List.map_toArray, List.map_cons, List.map_nil]; rfl) ?_
                      refine H7.out.mono ?_
                      rcases r7 with x | ⟨c, q7⟩
                      · rintro e w7 ⟨rfl, hb⟩
                        refine .inr ⟨_, rfl, ?_⟩
                        obtain rfl : R = .error x := HRY.out
                        exact ⟨rfl, rfl, hb⟩
                      rintro e w7 ⟨v7, rfl, ⟨v3, rfl, hr7⟩, hs7, hk7⟩
                      refine .inl ⟨_, rfl, ?_⟩
                      unfold cdcells
                      have HS7 := Aside0.mk hs7
                      have HJ7 := Aside0.mk (HJD.out.kept hk7)
                      have HKG := Aside0.mk hk7
                      have HM7 := Aside0.mk (k51_mkM w7 w0.heap.size (fun k => w5.drew.heap.size ≤ k) ⟨y, c⟩ hr7)
                      obtain rfl : R = .ok ({ s4 with rules := s4.rules ++ [⟨y, c⟩] }, q7) := by rw [HY.out]; exact HRY.out
                      have HOK : Aside0 (∀ k, w5.drew.heap.size ≤ k → (okR k ∨ w5.drew.heap.size ≤ k) ∧ some k ≠ b4.v6.ownBlock) := ⟨fun k hk => ⟨.inr hk, fun he => by have := Kd.R_lt HJD.out.rR k he.symm; omega⟩⟩
                      have HFR : Aside0 (∀ k, w7.heap.size ≤ k → okR k ∨ w5.drew.heap.size ≤ k) := ⟨fun k hk => .inr (by have := HKG.out.1; omega)⟩
                      have HR7 : Aside0 (k51.R 51 w7 w0.heap.size (fun k => okR k ∨ w5.drew.heap.size ≤ k) b4.v6 s4.rules) := ⟨Kd.R_mono HJ7.out.rR (fun k hk => .inl hk)⟩
                      clear hs7 hk7 hr7 HS5 HRY
                      refine hK.out _ _ ((HS7.out.cell 6)) (fun hHeld => ?_)
                      clear hK K
                      refine norm_ (a' := ?_) ?_ ?_
                      rotate_left
                      · show Act.put _ (some 67) _ = _
                        simp only [Act.put, List.setIfInBounds_toArray, List.set_cons_zero, List.set_cons_succ, i64_w, i32_w]
                        rfl
                      refine pure_ (i := 10) (N := some 68) (v := ?_) (a' := ?_) #[true, true, true, true, true, true, true, true, true, true, true, false, false, false, false, false, false] rfl rfl (by kernel_rfl) (fun _ _ _ h => h) (Or.inl ⟨by rfl, ?_⟩) ?_ ?_
                      rotate_left
                      · intro w'
                        go_simp
                        with_reducible rfl
                      rotate_left
                      · simp only [Act.put, List.setIfInBounds_toArray, List.set_cons_zero, List.set_cons_succ, i64_w, i32_w]
                        rfl
                      refine one_ (i := 11) (N := some 69) #[true, true, true, true, true, true, true, true, true, true, true, true, false, false, false, false, false] rfl rfl (by kernel_rfl) (by decide) (fun K hK => ?_)
                      refine value_ (w1 := ?_) (v := ?_) (by rfl) rfl ?_ ?_
                      rotate_left 2
                      · go_simp
                        constructor
                        · rfl
                        · rfl
                      refine hK.out _ _ ((blk_cell (show (w7.alloc _).heap[g]? = _ from blk_alloc HS7.out.blk _) 6)) (fun hHeld => ?_)
                      clear hK K
                      refine norm_ (a' := ?_) ?_ ?_
                      rotate_left
                      · show Act.put _ (some 69) _ = _
                        simp only [Act.put, List.setIfInBounds_toArray, List.set_cons_zero, List.set_cons_succ, i64_w, i32_w]
                        rfl
                      refine last_ (i := 12) (N := some 70) #[true, true, true, true, true, true, true, true, true, true, true, true, true, false, false, false, false] rfl rfl (by kernel_rfl) (by decide) (fun K hK => ?_)
                      refine Kd.R_append_step k51 (w0 := w0) (W := w7) w0.heap.size (by rfl) _ _ 25 51 _ 72 rfl Tryd.underlying25 info_rule rfl (by decide) (by decide) b4.v6 s4.rules ⟨y, c⟩ [.bool y, .int .i64 c.f0, .string c.f1.f0, .string c.f1.f1, v3] (fun k => okR k ∨ w5.drew.heap.size ≤ k) (fun k => w5.drew.heap.size ≤ k) rfl rfl HM7.out HOK.out HFR.out HR7.out HS7.out.bl HS7.out.bl.size HLB.out ?_
                      intro v9 w9 hO9 hB9 hG9 hat9
                      have hp9 : w9.heap[g]? = some (.cells (pcells b4 q7 0) 63 (0, 0)) := (hG9.block g (blk_lt HS7.out.blk) (fun he => (HJ7.out.bR g (HJ7.out.rR.1 g he.symm)).2.2.1 rfl)).trans HS7.out.blk
                      have hkf : Kept w5.drew (w9.setCell ⟨g, 6, none⟩ v9) (fun k => k = g ∨ b4.v6.ownBlock = some k) := Kept.setCell (S := fun k => k = g ∨ b4.v6.ownBlock = some k) (p := ⟨g, 6, none⟩) (Kept.of_grown hG9 (HKG.out.mono (fun k hk => .inl hk)) (fun k hk => .inl (.inr hk))) (.inl (.inl rfl)) _
                      have HE : Aside0 (ItemQ w0 W lo g T b gm (.ok ({ s4 with rules := s4.rules ++ [⟨y, c⟩] }, q7)) (.returned (.tuple #[])) (w9.setCell ⟨g, 6, none⟩ v9)) := ⟨⟨rfl, { b4 with v6 := v9 }, _, _, HBA.out.1, HBA.out.2.1, HBA.out.2.2.1, HBA.out.2.2.2, ⟨blk_set hp9 6 _, hB9.setCell (p := ⟨g, 6, none⟩) HS7.out.gl _, HS7.out.gl, HS7.out.tC, HS7.out.tn, HS7.out.tc, HS7.out.tl, HS7.out.al⟩, HJD.out.rule HGD.out (Kd.R_far hO9 (p := ⟨g, 6, none⟩) (fun k hk (he : k = g) => by
                        rcases hk with hk | hk
                        · exact (HJD.out.bR k hk).2.2.1 he
                        · have := HGD.out; omega) _) hkf HLN.out.2.2, HKD.out.then_ (HJD.out.lo6 hkf) (fun k hk => .inl hk)⟩⟩
                      obtain ⟨A9, c9, e9⟩ := Kd.R_slice hO9
                      obtain ⟨n9, hn9⟩ : ∃ n9, n9 = (s4.rules ++ [(⟨y, c⟩ : Rl)]).length := ⟨_, rfl⟩
                      rw [← hn9] at e9
                      subst e9
                      have e4 : w9.cell? ⟨g, 6, none⟩ = some b4.v6 := blk_cell hp9 6
                      have f4 := blk_frozen hp9 6
                      clear hO9 hB9 hG9 hat9 hp9 hn9 hkf
                      refine hK.out _ _ ?_
                      clear hK K
                      refine norm_ (a' := ?_) ?_ ?_
                      rotate_left
                      · show Act.put _ (some 70) _ = _
                        simp only [Act.put, List.setIfInBounds_toArray, List.set_cons_zero, List.set_cons_succ, i64_w, i32_w]
                        rfl
                      refine pure_ (i := 13) (N := some 71) (v := ?_) (a' := ?_) #[true, true, true, true, true, true, true, true, true, true, true, true, true, true, false, false, false] rfl rfl (by kernel_rfl) (fun _ _ _ h => h) (Or.inl ⟨by rfl, ?_⟩) ?_ ?_
                      rotate_left
                      · intro w'
                        go_simp
                        with_reducible rfl
                      rotate_left
                      · simp only [Act.put, List.setIfInBounds_toArray, List.set_cons_zero, List.set_cons_succ, i64_w, i32_w]
                        rfl
                      refine pure_ (i := 14) (N := some 72) (v := ?_) (a' := ?_) #[true, true, true, true, true, true, true, true, true, true, true, true, true, true, true, false, false] rfl rfl (by kernel_rfl) (fun _ _ _ h => h) (Or.inl ⟨by rfl, ?_⟩) ?_ ?_
                      rotate_left
                      · intro w'
                        go_simp
                        with_reducible rfl
                      rotate_left
                      · simp only [Act.put, List.setIfInBounds_toArray, List.set_cons_zero, List.set_cons_succ, i64_w, i32_w]
                        rfl
                      refine pure_ (i := 15) (N := some 73) (v := ?_) (a' := ?_) #[true, true, true, true, true, true, true, true, true, true, true, true, true, true, true, true, false] rfl rfl (by kernel_rfl) (fun _ _ _ h => h) (Or.inl ⟨by rfl, ?_⟩) ?_ ?_
                      rotate_left
                      · intro w'
                        go_simp
                        with_reducible rfl
                      rotate_left
                      · simp only [Act.put, List.setIfInBounds_toArray, List.set_cons_zero, List.set_cons_succ, i64_w, i32_w]
                        rfl
                      refine last_ (i := 16) (N := none) #[true, true, true, true, true, true, true, true, true, true, true, true, true, true, true, true, true] rfl rfl (by kernel_rfl) (by decide) (fun K hK => ?_)
                      refine skip_ (w1 := ?_) (by rfl) rfl ?_ ?_
                      rotate_left
                      · go_simp
                        rfl
                      refine hK.out _ _ ?_
                      clear hK K
                      refine done_ (by kernel_rfl) ?_

                      go_wp2
                      exact ⟨rfl, .tuple #[], by simp [results, Tryd.results21], HE.out⟩
end Go.Proofs.YtngedmioeodmfaaDoor.Ps
namespace Go.Proofs.YtngedmioeodmfaaDoor.Ps
open Go.RowKit Go.Proofs.YtngedmioeodmfaaDoor.Pr Go.Proofs.YtngedmioeodmfaaDoorW.PrintWords Go.Proofs.YtngedmioeodmfaaDoorW.PrintLast Go.Proofs.YtngedmioeodmfaaDoorW.PrintMore
set_option linter.unusedVariables false
set_option linter.unusedSimpArgs false
theorem shareL_mono {T : List Tk} {e : Int} : ∀ (f : Nat) (s : Sh) (p : Nat) (s' : Sh) (q : Nat), shareL T e f s p = .ok (s', q) → p ≤ q
  | 0, s, p, s', q, h => by
    rw [shareL] at h; cases h; exact Nat.le_refl _
  | f + 1, s, p, s', q, h => by
    by_cases hi : isP T e [wMethod, wHeader, wCreds] p = true
    · rw [shareL_succ _ _ _ _ _ hi.symm] at h
      cases ht : takeP T e 1 p with
      | error x => rw [ht] at h; cases h
      | ok x =>
        obtain ⟨w, q1⟩ := x
        have hq1 := takeP_mono ht
        rw [ht] at h
        simp only [shareK] at h
        split at h
        · cases ht2 : takeP T e 1 q1 with
          | error x => rw [ht2] at h; cases h
          | ok x =>
            obtain ⟨t, q2⟩ := x
            have hq2 := takeP_mono ht2
            rw [ht2] at h
            have := shareL_mono f _ _ _ _ h
            omega
        · split at h
          · cases ht2 : takeP T e 1 q1 with
            | error x => rw [ht2] at h; cases h
            | ok x =>
              obtain ⟨t, q2⟩ := x
              have hq2 := takeP_mono ht2
              rw [ht2] at h
              have := shareL_mono f _ _ _ _ h
              omega
          · have := shareL_mono f _ _ _ _ h
            omega
    · rw [shareL, if_neg hi] at h; cases h; exact Nat.le_refl _
theorem shareP_mono {T : List Tk} {e : Int} {p : Nat} {s' : Sh} {q : Nat} (h : shareP T e p = .ok (s', q)) : p ≤ q := by
  rw [shareP] at h
  cases ht : takeP T e 2 p with
  | error x => rw [ht] at h; cases h
  | ok x =>
    obtain ⟨t, q2⟩ := x
    have hq2 := takeP_mono ht
    rw [ht] at h
    have := shareL_mono _ _ _ _ _ h
    omega
theorem itemK_mono {T : List Tk} {e : Int} {s : Pst} {w : ByteArray} {p : Nat} {s' : Pst} {q : Nat} (h : itemK T e s w p = .ok (s', q)) : p ≤ q := by
  by_cases h0 : w = wCsp
  · rw [itemK_csp h0] at h
    cases ht : takeP T e 2 p with
    | error x => rw [ht] at h; cases h
    | ok x => obtain ⟨t, q2⟩ := x; have := takeP_mono ht; rw [ht] at h; cases h; omega
  by_cases h1 : w = wShare
  · rw [itemK_share h0 h1] at h
    cases ht : shareP T e p with
    | error x => rw [ht] at h; cases h
    | ok x => obtain ⟨t, q2⟩ := x; have := shareP_mono ht; rw [ht] at h; cases h; omega
  by_cases h2 : w = wMixed
  · rw [itemK_mixed h0 h1 h2] at h
    cases ht : wordP T e [wBlock, wUpgrade, wAllow] p with
    | error x => rw [ht] at h; cases h
    | ok x => obtain ⟨t, q2⟩ := x; have := wordP_mono ht; rw [ht] at h; cases h; omega
  by_cases h3 : w = wDefault
  · rw [itemK_default h0 h1 h2 h3] at h
    cases ht : wordP T e [wAllow, wDeny] p with
    | error x => rw [ht] at h; cases h
    | ok x => obtain ⟨t, q2⟩ := x; have := wordP_mono ht; rw [ht] at h; cases h; omega
  rw [itemK_rule h0 h1 h2 h3] at h
  cases ht : wordP T e [wIf] p with
  | error x => rw [ht] at h; cases h
  | ok x =>
    obtain ⟨t, q2⟩ := x
    have := wordP_mono ht
    rw [ht] at h
    simp only [ifK] at h
    cases hc : condP T e q2 with
    | error x => rw [hc] at h; cases h
    | ok x => obtain ⟨c, q3⟩ := x; have := condP_mono T e _ _ _ hc; rw [hc] at h; cases h; omega
theorem itemP_mono {T : List Tk} {e : Int} {s : Pst} {p : Nat} {s' : Pst} {q : Nat} (h : itemP T e s p = .ok (s', q)) : p ≤ q := by
  rw [itemP] at h
  split at h
  · split at h
    · cases h
    · split at h
      · cases h
      · cases ht : takeP T e 1 p with
        | error x => rw [ht] at h; cases h
        | ok x =>
          obtain ⟨t, q2⟩ := x
          have := takeP_mono ht
          rw [ht] at h
          have := itemK_mono h
          omega
  · cases h
def endK (T : List Tk) (e : Int) (f : Nat) (s : Pst) : Res ByteArray → Except (Int × Int) Pst
  | .error x => .error x
  | .ok (_, r) => itemsP T e f s r
def itemsK (T : List Tk) (e : Int) (f : Nat) : Res Pst → Except (Int × Int) Pst
  | .error x => .error x
  | .ok (s, q) => endK T e f s (takeP T e 5 q)
theorem itemsP_succ {T : List Tk} {e : Int} {f : Nat} {s : Pst} {p : Nat} (h : p < T.length) : itemsP T e (f + 1) s p = itemsK T e f (itemP T e s p) := by
  rw [itemsP, if_pos h]
  cases itemP T e s p with
  | error x => rfl
  | ok x =>
    obtain ⟨s1, q⟩ := x
    simp only [itemsK]
    cases takeP T e 5 q <;> rfl
/-- What stands in a policy's five cells. -/
def polcells (v3 v4 : Value) (m : ByteArray) (v6 : Value) (a : Bool) : Array Value := #[v3, v4, .string m, v6, .bool a]
def zeroPol : Value := .agg (polcells (.slice none 0 0) (.slice none 0 0) ⟨#[]⟩ (.slice none 0 0) false)
def faultV (f : Int × Int) : Value := .agg #[.int .i64 f.1, .int .i64 f.2]
/-- A policy's rows, in memory of the call's own. -/
structure PolV (w' : World) (base : Nat) (v3 v4 v6 : Value) (st : Pst) : Prop where
  rC : Kd.string.R 9 w' base (fun _ => True) v3 st.csp
  rS : k44.R 44 w' base (fun k => some k ≠ v3.ownBlock) v4 st.shares
  rR : k51.R 51 w' base (fun _ => True) v6 st.rules
theorem pol_rows (w w2 wr : World) (gp lo g : Nat) (b : Pb) (st : Pst) (gm : Nat) (okS okR : Nat → Prop) (h2 : gp + 1 < w2.heap.size) (hw : w.heap.size ≤ w2.heap.size) (hj : IS w2 wr lo g b st gm okS okR) (c1 c2 : Array Value) :
    PolV ((wr.setRow gp c1).setRow (gp + 1) c2) w.heap.size b.v3 b.v4 b.v6 st := by
  have hk : Kept wr ((wr.setRow gp c1).setRow (gp + 1) c2) (fun k => k = gp ∨ k = gp + 1) := ((kept_setRow wr gp c1).mono (fun k hk => .inl hk)).then_ (kept_setRow _ _ _) (fun k hk => .inl (.inr hk))
  refine ⟨?_, ?_, ?_⟩
  · exact Kd.R_lower (Kd.R_mono (Kd.R_kept (Kd.R_bound hj.rC) hk (fun k ho hs => by have := ho.2.1; rcases hs with hs | hs <;> omega)) (fun _ _ => trivial)) hw
  · exact Kd.R_lower (Kd.R_mono (Kd.R_kept (Kd.R_bound hj.rS) hk (fun k ho hs => by have := ho.2.1; rcases hs with hs | hs <;> omega)) (fun k ho he => (hj.dC k he.symm).2.2.2.1 ho.1)) hw
  · exact Kd.R_lower (Kd.R_mono (Kd.R_kept (Kd.R_bound hj.rR) hk (fun k ho hs => by have := ho.2.1; rcases hs with hs | hs <;> omega)) (fun _ _ => trivial)) hw
theorem pol_one {v3 v4 v6 : Value} (h : v3.oneCell' = true ∧ v4.oneCell' = true ∧ v6.oneCell' = true) (m : ByteArray) (a : Bool) : (polcells v3 v4 m v6 a).all (·.oneCell') = true := by
  rw [← Array.all_toList]
  show (v3.oneCell' && (v4.oneCell' && ((Value.string m).oneCell' && (v6.oneCell' && ((Value.bool a).oneCell' && true))))) = true
  rw [h.1, h.2.1, h.2.2]; rfl
def PolQ (w : World) (r : Except (Int × Int) Pst) (e : Ending) (w' : World) : Prop :=
  match r with
  | .ok st => ∃ v3 v4 v6, e = .returned (.tuple #[.agg (polcells v3 v4 st.mixed v6 st.allow), faultV (0, 0)]) ∧ PolV w' w.heap.size v3 v4 v6 st ∧ Below w.heap.size w w'
  | .error f => e = .returned (.tuple #[zeroPol, faultV f]) ∧ Below w.heap.size w w'
/-- A text's policy, of its tokens. -/
def polT (n : Int) : List Tk × Int × Int → Except (Int × Int) Pst
  | (T, c, a) => if c = 0 then polP T n else .error (c, a)
/-- A region none of whose operations panics. -/
def NoP (Q : Exit → Act → World → Prop) : Exit → Act → World → Prop
  | .panic _, _, _ => False
  | e, a, w => Q e a w
theorem region_noP {P : Program} {Q : Exit → Act → World → Prop} {c : Code} {a : Act} {w : World} (h : c.wp P (NoP Q) a w) : c.wp P Q a w :=
  wp_mono h (fun e a w hq => by cases e <;> first | exact hq | exact hq.elim)
theorem size_two (w : World) (c1 c2 : Array Value) (t1 t2 : TypeId) : ((w.alloc (.cells c1 t1)).alloc (.cells c2 t2)).heap.size = w.heap.size + 2 := by
  rw [show ((w.alloc (.cells c1 t1)).alloc (.cells c2 t2)).heap.size = (w.alloc (.cells c1 t1)).heap.size + 1 from Array.size_push _, show (w.alloc (.cells c1 t1)).heap.size = w.heap.size + 1 from Array.size_push _]
theorem blk_newm (w : World) (c2 : Array Value) (t2 : TypeId) : ((w.alloc (.map #[] 0)).alloc (.cells c2 t2)).heap[w.heap.size + 1]? = some (.cells c2 t2 (0, 0)) := by
  have h := blk_new (w.alloc (.map #[] 0)) (.cells c2 t2)
  rwa [show (w.alloc (.map #[] 0)).heap.size = w.heap.size + 1 from Array.size_push _] at h
theorem blk_new2 (w : World) (c1 c2 : Array Value) (t1 t2 : TypeId) : ((w.alloc (.cells c1 t1)).alloc (.cells c2 t2)).heap[w.heap.size + 1]? = some (.cells c2 t2 (0, 0)) := by
  have h := blk_new (w.alloc (.cells c1 t1)) (.cells c2 t2)
  rwa [show (w.alloc (.cells c1 t1)).heap.size = w.heap.size + 1 from Array.size_push _] at h
theorem size_fault : (Tryd.prog.info? 30).map (·.size) = some 2 := by kernel_rfl
theorem size_pol : (Tryd.prog.info? 27).map (·.size) = some 5 := by kernel_rfl
theorem pol_results (tmps : Array Value) (w : World) (gp gf : Nat) (cs fs : Array Value) (h2 : tmps.getD 2 undef = .pointer (some ⟨gp, 0, none⟩)) (h3 : tmps.getD 3 undef = .pointer (some ⟨gf, 0, none⟩))
    (hp : w.heap[gp]? = some (.cells cs 27 (0, 0))) (hf : w.heap[gf]? = some (.cells fs 30 (0, 0))) (hc : cs.size = 5) (hfs : fs.size = 2) :
    (results Tryd.f12 tmps).run Tryd.prog w = .ok (.tuple #[.agg cs, .agg fs]) w :=
  results_list (rs := [.cell 2 27, .cell 3 30]) rfl (by simp) (.cell gp _ cs (0, 0) _ h2 hp Tryd.underlying27 rfl (by rw [hc]; exact size_pol) (.cell gf _ fs (0, 0) _ h3 hf Tryd.underlying30 rfl (by rw [hfs]; exact size_fault) .nil))
/-- What the deferred closure makes of a fault. -/
theorem pol_fault (w w2 w' : World) (gp : Nat) (tmps : Array Value) (f : Int × Int) (r : Except (Int × Int) Pst) (hr : r = .error f) (h2 : tmps.getD 2 undef = .pointer (some ⟨gp, 0, none⟩)) (h3 : tmps.getD 3 undef = .pointer (some ⟨gp + 1, 0, none⟩))
    (ps qs : Array Value) (hp : w2.heap[gp]? = some (.cells ps 27 (0, 0))) (hf : w2.heap[gp + 1]? = some (.cells qs 30 (0, 0))) (hps : ps.size = 5) (hqs : qs.size = 2) (hb : Below w2.heap.size w2 w') (hw : Below w.heap.size w w2) (hgp : w.heap.size ≤ gp) :
    bodyPostD Tryd.prog Tryd.f12 (PolQ w r) (.panic (ent f)) { tmps := tmps, defers := [{ target := .fn (Fn.func 20) #[.pointer (some ⟨gp, 0, none⟩), .pointer (some ⟨gp + 1, 0, none⟩)], args := #[] }] } w' := by
  subst hr
  refine leaves_cons (f := 20) (args := #[.pointer (some ⟨gp, 0, none⟩), .pointer (some ⟨gp + 1, 0, none⟩)]) (by simp) (by simp [go_sem]) ?_
  refine (catch_fault gp (gp + 1) f w' ps qs (blk_below hp hb) (blk_below hf hb) hps hqs (by omega)).mono ?_
  rintro e u' w'' ⟨rfl, ⟨pe, rfl⟩, hP, hF, hK, hB⟩
  exact ⟨_, pol_results tmps w'' gp (gp + 1) _ _ h2 h3 hP hF rfl rfl, rfl, hB w (hw.trans (hb.mono hw.size)) hgp (by omega)⟩
set_option maxHeartbeats 16000000 in
set_option maxRecDepth 100000 in
theorem policy_calls (s : ByteArray) (k : Nat) (T : List Tk) (c a : Int) (w : World) (hL : Laid w) (h : lex_Tokens.f k s = some (T, c, a)) (hsz : ∀ t ∈ T, t.f2.size ≤ 1000000) (hln : T.length ≤ 1000000) (hss : s.size ≤ 1000000) :
    Calls Tryd.prog 12 #[.string s] w (PolQ w (polT s.size (T, c, a))) := by
  have hmf : ∀ (fn : Fn) (first cap : Array Value) (w : World), (Instr.makeFunc fn first cap).run Tryd.prog w = .ok (.func fn first cap) w := fun _ _ _ _ => rfl
  have HSZ := Aside0.mk hsz
  have HLN := Aside0.mk hln
  have HSS := Aside0.mk hss
  obtain ⟨gp, hgp⟩ : ∃ gp, gp = w.heap.size := ⟨_, rfl⟩
  obtain ⟨R, hR⟩ : ∃ R, R = polT s.size (T, c, a) := ⟨_, rfl⟩
  rw [← hR]
  have HR := Aside0.mk hR
  clear hR hsz hln hss
  have HL := Aside0.mk hL
  have HTK := Aside0.mk h
  clear hL h
  go_enter_defers Tryd.func12, Tryd.ntmps12
  go_wp2_with fail
  refine (lex_Tokens.calls k s T c a _ (HL.out.below (below_alloc (below_alloc (Below.refl _ _) _) _)) HTK.out).mono ?_
  rintro e w1 ⟨v0, rfl, hT, hb⟩
  dsimp only
  have HF1 : Aside0 (w1.heap[gp + 1]? = some (.cells #[.int .i64 0, .int .i64 0] 30 (0, 0))) := ⟨by rw [hgp]; exact blk_below (blk_new2 _ _ _ _ _) hb⟩
  have HP1 : Aside0 (w1.heap[gp]? = some (.cells (polcells (.slice none 0 0) (.slice none 0 0) ⟨#[]⟩ (.slice none 0 0) false) 27 (0, 0))) := ⟨by rw [hgp]; exact blk_below (blk_alloc (blk_new _ _) _) hb⟩
  have HB1 : Aside0 (Below w.heap.size w w1) := ⟨(below_alloc (below_alloc (Below.refl _ _) _) _).trans (hb.mono (below_alloc (below_alloc (Below.refl _ _) _) _).size)⟩
  obtain ⟨A0, c0, e0⟩ := Kd.R_slice hT
  obtain ⟨n0, hn0⟩ : ∃ n0, n0 = T.length := ⟨_, rfl⟩
  rw [← hn0] at e0
  subst e0
  rw [size_two, ← hgp] at hT
  have HT1 := Aside0.mk hT
  have HN0 := Aside0.mk hn0
  have HGP := Aside0.mk hgp
  clear hT hb hn0 
  rw [← hgp]
  clear hgp
  have hput : ∀ (a : Act) (v : Value), a.put none v = a := fun _ _ => rfl
  by_cases hc : c = 0
  · have l1 : (c != (0 : Int)) = false := by simp [hc]
    subst hc
    go_upto_region 2 with (refine wpList_store_row rfl 30 _ _ rfl (gp + 1) #[.int .i64 0, .int .i64 a] rfl rfl 30 #[.int .i64 0, .int .i64 0] HF1.out size_fault rfl (by simp [Value.oneCell']) ?_)
    obtain ⟨w2, hw2⟩ : ∃ w2, w2 = w1.setRow (gp + 1) #[.int .i64 0, .int .i64 a] := ⟨_, rfl⟩
    rw [← hw2]
    have HF2 : Aside0 (w2.heap[gp + 1]? = some (.cells #[.int .i64 0, .int .i64 a] 30 (0, 0))) := ⟨by rw [hw2]; exact setRow_heap _ _ _ _ _ _ HF1.out⟩
    have HP2 : Aside0 (w2.heap[gp]? = some (.cells (polcells (.slice none 0 0) (.slice none 0 0) ⟨#[]⟩ (.slice none 0 0) false) 27 (0, 0))) := ⟨by rw [hw2]; exact (setRow_other _ _ _ _ (by omega)).trans HP1.out⟩
    have HB2 : Aside0 (Below w.heap.size w w2) := ⟨by rw [hw2]; exact below_setRow HB1.out (by rw [HGP.out]; omega) _⟩
    have HT2 : Aside0 (k40.R 40 w2 (gp + 2) (fun _ => True) (.slice A0 n0 c0) T) := ⟨by rw [hw2]; exact Kd.R_mono (Kd.R_kept (Kd.R_bound HT1.out) (kept_setRow _ _ _) (fun k hk he => by have := hk.2.1; omega)) (fun _ _ => trivial)⟩
    clear hw2
    have t0 : w2.cell? ⟨gp + 1, 0, none⟩ = some (.int .i64 0) := blk_cell HF2.out 0
    have hmm := @run_makeMap Tryd.prog
    go_wp2_with (fail)
    obtain ⟨gm, hgm⟩ : ∃ gm, gm = w2.heap.size := ⟨_, rfl⟩
    obtain ⟨w3, hw3⟩ : ∃ w3, w3 = (w2.alloc (.map #[] 0)).alloc (.cells #[.slice A0 n0 c0, .int .i64 0, .int .i64 s.size, .slice none 0 0, .slice none 0 0, .string wBlock, .slice none 0 0, .bool false, .int .i64 0, .map (some gm), .int .i64 0] 63) := ⟨_, rfl⟩
    have hw3' := hw3
    rw [hgm] at hw3'
    unfold wBlock at hw3'
    rw [← hw3', ← hgm]
    have HG3 : Aside0 (w3.heap[gm + 1]? = some (.cells #[.slice A0 n0 c0, .int .i64 0, .int .i64 s.size, .slice none 0 0, .slice none 0 0, .string wBlock, .slice none 0 0, .bool false, .int .i64 0, .map (some gm), .int .i64 0] 63 (0, 0))) := ⟨by rw [hw3, hgm]; exact blk_newm _ _ _⟩
    have HB3 : Aside0 (Below w2.heap.size w2 w3) := ⟨by rw [hw3]; exact below_alloc (below_alloc (Below.refl _ _) _) _⟩
    have HM3 : Aside0 (Met w3 gm (0 + 0) 0 0) := ⟨by rw [hw3, hgm]; exact (met_made w2).kept (Kept.alloc (Kept.refl _ (fun _ => False)) _) (fun h => h)⟩
    have HGM := Aside0.mk hgm
    clear hw3 hw3' hgm
    obtain ⟨b0, hb0⟩ : ∃ b0 : Pb, b0 = ⟨A0, n0, c0, s.size, .slice none 0 0, .slice none 0 0, .string wBlock, .slice none 0 0, .bool false, .int .i64 0, .map (some gm)⟩ := ⟨_, rfl⟩
    have HTC := Kd.R_reads' HT2.out
    have HS3 : Aside0 (PS w2 w3 (gm + 1) T b0 0 0) := ⟨by rw [hb0]; exact ⟨HG3.out, HB3.out, by rw [HGM.out]; omega, by show k40.C w2 A0 n0 T; rw [HN0.out]; exact HTC.2.2, HN0.out, HTC.2.1, HLN.out, Nat.zero_le _⟩⟩
    have HI3 : Aside0 (IS w2 w3 gm (gm + 1) b0 pst0 gm (fun _ => False) (fun _ => False)) := ⟨by
      rw [hb0]
      exact { rC := Kd.R_nil _ _ _ _ _, rS := Kd.R_nil _ _ _ _ _, rR := Kd.R_nil _ _ _ _ _, dC := fun k hk => by simp [Value.ownBlock] at hk, bS := fun _ h => h.elim, bR := fun _ h => h.elim, ng := by omega, l0 := by rw [HGM.out]; exact Nat.le_refl _, lg := by omega, lm := Nat.le_refl _, e5 := rfl, e7 := rfl, e8 := rfl, e9 := rfl, mt := HM3.out, lC := Nat.le_refl _, lS := Nat.le_refl _, lR := Nat.le_refl _, lI := by decide, lM := by decide, lD := by decide }⟩
    have HBA : Aside0 (b0.A = A0 ∧ b0.n = n0 ∧ b0.c = c0 ∧ b0.e = s.size) := ⟨by rw [hb0]; exact ⟨rfl, rfl, rfl, rfl⟩⟩
    have HR0 : Aside0 (R = itemsP T s.size (T.length + 1) pst0 0) := ⟨by rw [HR.out, polT, if_pos rfl]; rfl⟩
    clear hb0 HTC HG3 HB3 HM3 HR hmm
    go_loopg [] T.length (fun gk wr => ∃ (f : Nat) (st : Pst) (p : Nat) (b : Pb) (okS okR : Nat → Prop), Aside0 (T.length + 1 ≤ f + p) ∧ Aside0 (T.length - p ≤ gk) ∧ Aside0 (R = itemsP T s.size f st p) ∧ Aside0 (b.A = A0 ∧ b.n = n0 ∧ b.c = c0 ∧ b.e = s.size) ∧ Aside0 (PS w2 wr (gm + 1) T b p 0) ∧ Aside0 (IS w2 wr gm (gm + 1) b st gm okS okR))
    case atStart => exact ⟨T.length + 1, pst0, 0, b0, _, _, ⟨Nat.le_refl _⟩, ⟨Nat.sub_le _ _⟩, HR0, HBA, HS3, HI3⟩
    case round =>
      clear HS3 HI3 HBA HR0
      obtain ⟨f, st, p, b, okS, okR, HFB, HGK, HFN, HBA, HS, HJ⟩ := hrel
      have c1 : wr.cell? ⟨gm + 1, 1, none⟩ = some (.int .i64 p) := HS.out.cell 1
      by_cases hp : p < n0
      · have l1 : decide ((p : Int) < (n0 : Int)) = true := decide_eq_true (by omega)
        have l2 : decide (p < n0) = true := decide_eq_true hp
        have h5 := item_calls w2 wr gm (gm + 1) T b p st gm okS okR HSZ.out HS.out HJ.out
        obtain ⟨r5, hr5⟩ : ∃ r5, r5 = itemP T s.size st p := ⟨_, rfl⟩
        rw [HBA.out.2.2.2, ← hr5] at h5
        have H5 := Aside0.mk h5
        obtain ⟨f', hf'⟩ : ∃ f', f = f' + 1 := ⟨f - 1, by have := HFB.out; have := HN0.out; omega⟩
        have HFK : Aside0 (R = itemsK T s.size f' r5) := ⟨by rw [HFN.out, hf', itemsP_succ (by rw [← HN0.out]; exact hp), ← hr5]⟩
        have HFB' : Aside0 (T.length ≤ f' + p) := ⟨by have := HFB.out; omega⟩
        have HR5 := Aside0.mk hr5
        have HPN : Aside0 (p < T.length) := ⟨by rw [← HN0.out]; exact hp⟩
        clear h5 hr5 hf' HFN HFB
        go_wp2_with fail
        refine H5.out.mono ?_
        cases r5 with
        | error x =>
          have hfx : R = .error x := HFK.out
          rintro e w5 ⟨rfl, hb⟩
          dsimp only
          exact pol_fault w w2 w5 gp _ x R hfx rfl rfl _ _ HP2.out HF2.out rfl rfl hb HB2.out (by rw [HGP.out]; exact Nat.le_refl _)
        | ok x =>
          obtain ⟨st5, q5⟩ := x
          rintro e w5 ⟨rfl, b5, okS5, okR5, e1, e2, e3, e4, hs5, hi5, hk5⟩
          dsimp only
          have HS5 := Aside0.mk hs5
          have HJ5 := Aside0.mk hi5
          have HBA5 : Aside0 (b5.A = A0 ∧ b5.n = n0 ∧ b5.c = c0 ∧ b5.e = s.size) := ⟨⟨e1.trans HBA.out.1, e2.trans HBA.out.2.1, e3.trans HBA.out.2.2.1, e4.trans HBA.out.2.2.2⟩⟩
          have HQ5 : Aside0 (p ≤ q5) := ⟨itemP_mono HR5.out.symm⟩
          clear e1 e2 e3 e4 hs5 hi5 hk5 HS HJ H5 HR5 c1 l1 l2
          have h7 := take_calls w2 w5 (gm + 1) T b5 q5 0 5 HS5.out (by decide)
          obtain ⟨r7, hr7⟩ : ∃ r7, r7 = takeP T s.size 5 q5 := ⟨_, rfl⟩
          rw [HBA5.out.2.2.2, ← hr7] at h7
          have H7 := Aside0.mk h7
          have HFE : Aside0 (R = endK T s.size f' st5 r7) := ⟨by rw [HFK.out, hr7]; rfl⟩
          have HR7 := Aside0.mk hr7
          clear h7 hr7 HFK
          go_wp2_with fail
          refine H7.out.mono ?_
          cases r7 with
          | error x =>
            have hfx : R = .error x := HFE.out
            rintro e w7 ⟨rfl, hb⟩
            dsimp only
            exact pol_fault w w2 w7 gp _ x R hfx rfl rfl _ _ HP2.out HF2.out rfl rfl hb HB2.out (by rw [HGP.out]; exact Nat.le_refl _)
          | ok x =>
            obtain ⟨t7, q7⟩ := x
            rintro e w7 ⟨v7, rfl, rfl, hs7, hk7⟩
            dsimp only
            have HS7 := Aside0.mk hs7
            have HJ7 := Aside0.mk (HJ5.out.kept hk7)
            have HQ7 : Aside0 (q7 = q5 + 1) := ⟨takeP_mono HR7.out.symm⟩
            clear hs7 hk7 HS5 HJ5 H7 HR7
            go_wp2
            go_roundg (T.length - q7)
            case measure => have := HGK.out; have := HQ5.out; have := HQ7.out; have := HPN.out; omega
            case rel => exact ⟨f', st5, q7, b5, okS5, okR5, ⟨by have := HFB'.out; have := HQ5.out; have := HQ7.out; omega⟩, ⟨Nat.le_refl _⟩, ⟨HFE.out⟩, HBA5, HS7, HJ7⟩
      · have l1 : decide ((p : Int) < (n0 : Int)) = false := decide_eq_false (by omega)
        have l2 : decide (p < n0) = false := decide_eq_false hp
        obtain rfl : R = .ok st := by
          rw [HFN.out]
          cases f with
          | zero => rfl
          | succ f => rw [itemsP, if_neg (by rw [← HN0.out]; exact hp)]
        obtain ⟨A3, k3, e3⟩ := Kd.R_slice HJ.out.rC
        obtain ⟨A4, k4, e4⟩ := Kd.R_slice HJ.out.rS
        obtain ⟨A6, k6, e6⟩ := Kd.R_slice HJ.out.rR
        obtain ⟨v3, hv3⟩ : ∃ v3, v3 = b.v3 := ⟨_, rfl⟩
        obtain ⟨v4, hv4⟩ : ∃ v4, v4 = b.v4 := ⟨_, rfl⟩
        obtain ⟨v6, hv6⟩ : ∃ v6, v6 = b.v6 := ⟨_, rfl⟩
        have HC : Aside0 (v3.oneCell' = true ∧ v4.oneCell' = true ∧ v6.oneCell' = true) := ⟨by rw [hv3, hv4, hv6, e3, e4, e6]; exact ⟨rfl, rfl, rfl⟩⟩
        have c3 : wr.cell? ⟨gm + 1, 3, none⟩ = some v3 := by rw [hv3]; exact HS.out.cell 3
        have c4 : wr.cell? ⟨gm + 1, 4, none⟩ = some v4 := by rw [hv4]; exact HS.out.cell 4
        have c5 : wr.cell? ⟨gm + 1, 5, none⟩ = some (.string st.mixed) := (HS.out.cell 5).trans (congrArg some HJ.out.e5)
        have c6 : wr.cell? ⟨gm + 1, 6, none⟩ = some v6 := by rw [hv6]; exact HS.out.cell 6
        have c7 : wr.cell? ⟨gm + 1, 7, none⟩ = some (.bool st.allow) := (HS.out.cell 7).trans (congrArg some HJ.out.e7)
        have HPr : Aside0 (wr.heap[gp]? = some (.cells (polcells (.slice none 0 0) (.slice none 0 0) ⟨#[]⟩ (.slice none 0 0) false) 27 (0, 0))) := ⟨blk_below HP2.out HS.out.bl⟩
        have HFr : Aside0 (wr.heap[gp + 1]? = some (.cells #[.int .i64 0, .int .i64 a] 30 (0, 0))) := ⟨blk_below HF2.out HS.out.bl⟩
        have HV : Aside0 (∀ c1 c2, PolV ((wr.setRow gp c1).setRow (gp + 1) c2) w.heap.size v3 v4 v6 st) := ⟨fun c1 c2 => by rw [hv3, hv4, hv6]; exact pol_rows w w2 wr gp _ _ b st gm okS okR (blk_lt HF2.out) HB2.out.size HJ.out c1 c2⟩
        have HBr : Aside0 (Below w.heap.size w wr) := ⟨HB2.out.trans (HS.out.bl.mono HB2.out.size)⟩
        clear hv3 hv4 hv6 e3 e4 e6
        go_wp2_with (first | refine wpList_store_row rfl 27 (.tmp 2) (.tmp 40) rfl gp (polcells v3 v4 st.mixed v6 st.allow) rfl rfl 27 _ HPr.out size_pol rfl (pol_one HC.out _ _) ?_ | refine wpList_store_row rfl 30 (.tmp 3) (.tmp 41) rfl (gp + 1) #[.int .i64 0, .int .i64 0] rfl rfl 30 #[.int .i64 0, .int .i64 a] ((setRow_other _ _ _ _ (show gp + 1 ≠ gp by omega)).trans HFr.out) size_fault rfl (by simp [Value.oneCell']) ?_)
        rw [hput, hput]
        clear hput
        refine leaves_cons (f := 20) (args := #[.pointer (some ⟨gp, 0, none⟩), .pointer (some ⟨gp + 1, 0, none⟩)]) (by simp) (by simp [go_sem]) ?_
        refine (catch_idle gp (gp + 1) _).mono ?_
        rintro e u' w'' ⟨rfl, rfl, rfl⟩
        refine ⟨_, pol_results _ _ gp (gp + 1) _ _ rfl rfl ?_ ?_ rfl rfl, v3, v4, v6, rfl, HV.out _ _, ?_⟩
        · exact (setRow_other _ _ _ _ (show gp ≠ gp + 1 by omega)).trans (setRow_heap _ _ _ _ _ _ HPr.out)
        · exact setRow_heap _ _ _ _ _ _ ((setRow_other _ _ _ _ (show gp + 1 ≠ gp by omega)).trans HFr.out)
        · exact below_setRow (below_setRow HBr.out (by rw [HGP.out]; omega) _) (by rw [HGP.out]; omega) _
  · have l1 : (c != (0 : Int)) = true := by simp [hc]
    obtain rfl : R = .error (c, a) := by rw [HR.out, polT, if_neg hc]
    go_upto_region 2 with (refine wpList_store_row rfl 30 _ _ rfl (gp + 1) #[.int .i64 c, .int .i64 a] rfl rfl 30 #[.int .i64 0, .int .i64 0] HF1.out size_fault rfl (by simp [Value.oneCell']) ?_)
    obtain ⟨w2, hw2⟩ : ∃ w2, w2 = w1.setRow (gp + 1) #[.int .i64 c, .int .i64 a] := ⟨_, rfl⟩
    rw [← hw2]
    have HF2 : Aside0 (w2.heap[gp + 1]? = some (.cells #[.int .i64 c, .int .i64 a] 30 (0, 0))) := ⟨by rw [hw2]; exact setRow_heap _ _ _ _ _ _ HF1.out⟩
    have HP2 : Aside0 (w2.heap[gp]? = some (.cells (polcells (.slice none 0 0) (.slice none 0 0) ⟨#[]⟩ (.slice none 0 0) false) 27 (0, 0))) := ⟨by rw [hw2]; exact (setRow_other _ _ _ _ (by omega)).trans HP1.out⟩
    have HB2 : Aside0 (Below w.heap.size w w2) := ⟨by rw [hw2]; exact below_setRow HB1.out (by rw [HGP.out]; omega) _⟩
    have HT2 : Aside0 (k40.R 40 w2 (gp + 2) (fun _ => True) (.slice A0 n0 c0) T) := ⟨by rw [hw2]; exact Kd.R_mono (Kd.R_kept (Kd.R_bound HT1.out) (kept_setRow _ _ _) (fun k hk he => by have := hk.2.1; omega)) (fun _ _ => trivial)⟩
    clear hw2
    have t0 : w2.cell? ⟨gp + 1, 0, none⟩ = some (.int .i64 c) := blk_cell HF2.out 0
    have t1 : w2.cell? ⟨gp + 1, 1, none⟩ = some (.int .i64 a) := blk_cell HF2.out 1
    go_upto_region 3 with (fail)
    refine region_noP ?_
    refine start_ (n := 4) (S := fun w' => w'.cell? ⟨gp + 1, 0, none⟩ = some (.int .i64 c) ∧ w'.cell? ⟨gp + 1, 1, none⟩ = some (.int .i64 a)) (ds := [3]) #[false, false, false, false] (by kernel_rfl) rfl rfl ⟨t0, t1⟩ (fun hHeld => ?_)
    refine pure_ (i := 0) (N := some 14) (v := ?_) (a' := ?_) #[true, false, false, false] rfl rfl (by kernel_rfl) (fun _ _ _ h => h) (Or.inl ⟨by rfl, ?_⟩) ?_ ?_
    rotate_left
    · intro w'
      go_simp
      with_reducible rfl
    rotate_left
    · simp only [Act.put, List.setIfInBounds_toArray, List.set_cons_zero, List.set_cons_succ, i64_w, i32_w]
      rfl
    refine take_ (i := 1) (N := some 15) (v := ?_) (a' := ?_) #[true, true, false, false] rfl rfl (by kernel_rfl) (fun _ _ _ h => h) (Or.inl ⟨by rfl, ?_⟩) hHeld ?_ ?_
    rotate_left
    · rintro w' ⟨s0, s1⟩
      go_simp
      with_reducible rfl
    rotate_left
    · simp only [Act.put, List.setIfInBounds_toArray, List.set_cons_zero, List.set_cons_succ, i64_w, i32_w]
      rfl
    refine one_ (i := 2) (N := none) #[true, true, true, false] rfl rfl (by kernel_rfl) (by decide) (fun K hK => ?_)
    refine QT.storeRow_ (by rfl) rfl 27 (.tmp 2) (.tmp 14) rfl gp #[.slice none 0 0, .slice none 0 0, .string ⟨#[]⟩, .slice none 0 0, .bool false] rfl rfl 27 _ HP2.out (by kernel_rfl) rfl (by simp [Value.oneCell']) ?_
    refine hK.out _ _ ⟨(cell_setRow_other _ _ _ _ (show gp + 1 ≠ gp by omega)).trans hHeld.1, (cell_setRow_other _ _ _ _ (show gp + 1 ≠ gp by omega)).trans hHeld.2⟩ (fun hHeld => ?_)
    clear hK K
    refine last_ (i := 3) (N := none) #[true, true, true, true] rfl rfl (by kernel_rfl) (by decide) (fun K hK => ?_)
    refine QT.storeRow_ (by rfl) rfl 30 (.tmp 3) (.tmp 15) rfl (gp + 1) #[.int .i64 c, .int .i64 a] rfl rfl 30 #[.int .i64 c, .int .i64 a] ((setRow_other _ _ _ _ (show gp + 1 ≠ gp by omega)).trans HF2.out) (by kernel_rfl) rfl (by simp [Value.oneCell']) ?_
    refine hK.out _ _ ?_
    clear hK K
    refine done_ (by kernel_rfl) ?_

    rw [hput, hput]
    clear hput
    dsimp only [NoP, Exit.then]
    go_wp2
    refine ⟨_, pol_results _ _ gp (gp + 1) _ _ rfl rfl ?_ ?_ rfl rfl, rfl, ?_⟩
    · exact (setRow_other _ _ _ _ (show gp ≠ gp + 1 by omega)).trans (setRow_heap _ _ _ _ _ _ HP2.out)
    · exact setRow_heap _ _ _ _ _ _ ((setRow_other _ _ _ _ (show gp + 1 ≠ gp by omega)).trans HF2.out)
    · exact below_setRow (below_setRow (below_drew HB2.out) (by rw [HGP.out]; omega) _) (by rw [HGP.out]; omega) _
def okTk (T : List Tk) : Bool := decide (T.length ≤ 1000000) && T.all (fun t => decide (t.f2.size ≤ 1000000))
theorem okTk_iff {T : List Tk} : okTk T = true ↔ T.length ≤ 1000000 ∧ ∀ t ∈ T, t.f2.size ≤ 1000000 := by
  simp [okTk]
def polRes : Except (Int × Int) Pst → List ByteArray × List Sh × ByteArray × List Rl × Bool × Int × Int
  | .ok s => (s.csp, s.shares, s.mixed, s.rules, s.allow, 0, 0)
  | .error f => ([], [], ⟨#[]⟩, [], false, f.1, f.2)
theorem polQ_res {w w' : World} {r : Except (Int × Int) Pst} {e : Ending} {r1 : List ByteArray} {r2 : List Sh} {r3 : ByteArray} {r4 : List Rl} {r5 : Bool} {r6 r7 : Int} (h : PolQ w r e w') (hr : polRes r = (r1, r2, r3, r4, r5, r6, r7)) :
    ∃ v0_ v1_ v3_ : Value, e = .returned (.tuple #[.agg #[v0_, v1_, .string r3, v3_, .bool r5], .agg #[.int .i64 r6, .int .i64 r7]]) ∧ Kd.R Kd.string 9 w' w.heap.size (fun _ => True) v0_ r1 ∧ Kd.R k44 44 w' w.heap.size (fun k_ => some k_ ≠ (v0_ : Value).ownBlock) v1_ r2 ∧ Kd.R k51 51 w' w.heap.size (fun _ => True) v3_ r4 ∧ Below w.heap.size w w' := by
  cases r with
  | error f =>
    obtain ⟨rfl, hb⟩ := h
    simp only [polRes, Prod.mk.injEq] at hr
    obtain ⟨rfl, rfl, rfl, rfl, rfl, rfl, rfl⟩ := hr
    exact ⟨_, _, _, rfl, Kd.R_nil _ _ _ _ _, Kd.R_nil _ _ _ _ _, Kd.R_nil _ _ _ _ _, hb⟩
  | ok s =>
    obtain ⟨v3, v4, v6, rfl, hv, hb⟩ := h
    simp only [polRes, Prod.mk.injEq] at hr
    obtain ⟨rfl, rfl, rfl, rfl, rfl, rfl, rfl⟩ := hr
    exact ⟨v3, v4, v6, rfl, hv.rC, hv.rS, hv.rR, hb⟩
end Go.Proofs.YtngedmioeodmfaaDoor.Ps
namespace Go.Proofs.YtngedmioeodmfaaDoor.Pr
open Go.RowKit Go.Proofs.YtngedmioeodmfaaDoorW.PrintWords Go.Proofs.YtngedmioeodmfaaDoorW.PrintLast Go.Proofs.YtngedmioeodmfaaDoorW.PrintMore
attribute [local go_sem] max2_int min2_int max_two min_two max_three min_three max_four min_four   -- for this text's walks alone
set_option linter.unusedVariables false
set_option linter.unusedSimpArgs false
def parse_Policy.f (k : Nat) (a0 : ByteArray) : Option (List ByteArray × List (S44) × ByteArray × List (S51) × Bool × Int × Int) :=
  if a0.size ≤ 1000000 then (lex_Tokens.f k a0).bind fun t => if Go.Proofs.YtngedmioeodmfaaDoor.Ps.okTk t.1 = true then some (Go.Proofs.YtngedmioeodmfaaDoor.Ps.polRes (Go.Proofs.YtngedmioeodmfaaDoor.Ps.polT a0.size t)) else none else none
theorem parse_Policy.mono : ∀ a0 k, LeO (parse_Policy.f k a0) (parse_Policy.f (k + 1) a0) := by
  intro a0 k
  unfold parse_Policy.f
  exact LeO.ite (LeO.bind (lex_Tokens.mono _ _) (fun _ => LeO.refl _)) (LeO.refl _)
theorem parse_Policy.calls (k : Nat) (a0 : ByteArray) (r1 : List ByteArray) (r2 : List (S44)) (r3 : ByteArray) (r4 : List (S51)) (r5 : Bool) (r6 : Int) (r7 : Int) (w : World) (hL : Laid w) (h : parse_Policy.f k a0 = some (r1, r2, r3, r4, r5, r6, r7)) :
    Calls Tryd.prog 12 #[.string a0] w fun e w' => ∃ v0_ v1_ v3_ : Value, e = .returned (.tuple #[.agg #[v0_, v1_, .string r3, v3_, .bool r5], .agg #[.int .i64 r6, .int .i64 r7]]) ∧ Kd.R Kd.string 9 w' w.heap.size (fun _ => True) v0_ r1 ∧ Kd.R k44 44 w' w.heap.size (fun k_ => some k_ ≠ (v0_ : Value).ownBlock) v1_ r2 ∧ Kd.R k51 51 w' w.heap.size (fun _ => True) v3_ r4 ∧ Below w.heap.size w w' := by
  unfold parse_Policy.f at h
  by_cases hs : a0.size ≤ 1000000
  · rw [if_pos hs] at h
    obtain ⟨⟨T, c, a⟩, ht, hr⟩ := Option.bind_eq_some_iff.mp h
    by_cases hk : Go.Proofs.YtngedmioeodmfaaDoor.Ps.okTk T = true
    · rw [if_pos hk] at hr
      have hr := Option.some.inj hr
      have hk2 := Go.Proofs.YtngedmioeodmfaaDoor.Ps.okTk_iff.1 hk
      refine (Go.Proofs.YtngedmioeodmfaaDoor.Ps.policy_calls a0 k T c a w hL ht hk2.2 hk2.1 hs).mono ?_
      intro e w' hq
      exact Go.Proofs.YtngedmioeodmfaaDoor.Ps.polQ_res hq hr
    · rw [if_neg hk] at hr; cases hr
  · rw [if_neg hs] at h; cases h
end Go.Proofs.YtngedmioeodmfaaDoor.Pr
