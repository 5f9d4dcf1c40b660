/- The law on notes. -/
import Derived.Test.YtlhllcbglfffdaaDoorLexP6
namespace Go.Proofs.YtlhllcbglfffdaaDoor.Pu
open Go.RowKit Go.Proofs.YtlhllcbglfffdaaDoor.Pr Go.Proofs.YtlhllcbglfffdaaDoorW.PrintWords Go.Proofs.YtlhllcbglfffdaaDoor.Lx
set_option linter.unusedVariables false
set_option linter.unusedSimpArgs false

def pieceL (note : List Int) (t : Tk) : List Int := wof t ++ (35 :: (note ++ [10, 9]))
def textL (note : List Int) (ts : List Tk) : List Int := ts.flatMap (pieceL note)
def key (t : Tk) : Int × ByteArray := (t.f0, t.f2)
theorem rs_wordrow (a : Nat) (ts : List Tk) : ∀ l i acc, (∀ x ∈ l, pWord x = true) → rs i (.wd a acc) ts l = .go (.wd a (acc ++ l)) ts := by
  intro l
  induction l with
  | nil => intro i acc _; rw [rs, List.append_nil]
  | cons c l ih =>
    intro i acc h
    rw [rs]
    have : step i c (.wd a acc) ts = .go (.wd a (acc ++ [c])) ts := by simp only [step, h c List.mem_cons_self, if_true]
    rw [this]
    simp only
    rw [ih _ _ (fun x hx => h x (List.mem_cons_of_mem _ hx)), List.append_assoc]; rfl
theorem hash : pBlank 35 = false ∧ pWord 35 = false := by decide +kernel
theorem rs_tailnote (note : List Int) (hn : ∀ x ∈ note, x ≠ 10) (i : Nat) (ts : List Tk) : rs i .nt ts (note ++ [10, 9]) = .go .sk ts := by
  rw [rs_app_go (rs_note ts note i hn)]
  rw [rs]
  have s2 : step (i + note.length) 10 .nt ts = .go .sk ts := rfl
  rw [s2]
  simp only
  rw [rs]
  have s3 : step (i + note.length + 1) 9 .sk ts = .go .sk ts := by
    have : pBlank 9 = true := by decide +kernel
    simp only [step, st1, this, if_true]
  rw [s3]; rfl
theorem rs_hash (note : List Int) (hn : ∀ x ∈ note, x ≠ 10) (i : Nat) (ts : List Tk) : rs i .sk ts (35 :: (note ++ [10, 9])) = .go .sk ts := by
  rw [rs]
  have s1 : step i 35 .sk ts = .go .nt ts := by simp only [step, st1, hash.1]; rfl
  rw [s1]
  exact rs_tailnote note hn _ _
theorem rs_piece (note : List Int) (hn : ∀ x ∈ note, x ≠ 10) (t : Tk) (h : okT t) (i : Nat) (ts : List Tk) : rs i .sk ts (pieceL note t) = .go .sk (ts ++ [⟨t.f0, (i : Int), t.f2⟩]) := by
  unfold pieceL wof
  rcases h with ⟨h1, c, l, h2, h3, h4, h5, h6⟩ | ⟨h1, h2⟩ | ⟨c, hc, h1, h2⟩
  · rw [if_neg (by omega), h2, List.cons_append, rs]
    have s1 : step i c .sk ts = .go (.wd i [c]) ts := by simp only [step, st1, h3, h5]; rw [if_neg (by simp), if_neg h4, if_pos trivial]
    rw [s1]
    simp only
    rw [rs_app_go (rs_wordrow i ts l (i + 1) [c] h6), rs]
    have e : strOfNums ([c] ++ l) = t.f2 := strOfNums_inj_bytes _ _ h2
    have s2 : step (i + 1 + l.length) 35 (.wd i ([c] ++ l)) ts = .go .nt (ts ++ [⟨t.f0, (i : Int), t.f2⟩]) := by
      simp only [step, st1, hash.1, hash.2, e, h1]; rfl
    rw [s2]
    exact rs_tailnote note hn _ _
  · rw [if_pos h1]
    have : (34 :: (escL (bytesOf t.f2) ++ [34])) = quoteL (bytesOf t.f2) := rfl
    rw [this, rs_app_go (rs_quote i ts _ h2), rs_hash note hn, str_bytesOf, h1]
  · rw [if_neg (by rw [h1]; exact opIdx_ne c), h2]
    show rs i .sk ts (c :: (35 :: (note ++ [10, 9]))) = _
    rw [rs]
    have e : strOfNums [c] = t.f2 := strOfNums_inj_bytes _ _ h2
    have s1 : step i c .sk ts = .go .sk (ts ++ [⟨t.f0, (i : Int), t.f2⟩]) := by
      rw [← e, h1]
      rcases hc with rfl | rfl | rfl
      · simp only [step, st1, marks.1.1, marks.1.2]; rfl
      · simp only [step, st1, marks.2.1.1, marks.2.1.2]; rfl
      · simp only [step, st1, marks.2.2.1, marks.2.2.2]; rfl
    rw [s1]
    exact rs_hash note hn _ _
theorem rs_text (note : List Int) (hn : ∀ x ∈ note, x ≠ 10) : ∀ (l : List Tk) (i : Nat) (ts : List Tk), (∀ t ∈ l, okT t) → ∃ ts', rs i .sk ts (textL note l) = .go .sk (ts ++ ts') ∧ ts'.map key = l.map key := by
  intro l
  induction l with
  | nil => intro i ts _; exact ⟨[], by simp [textL, rs], rfl⟩
  | cons t l ih =>
    intro i ts h
    obtain ⟨ts', h1, h2⟩ := ih (i + (pieceL note t).length) (ts ++ [⟨t.f0, (i : Int), t.f2⟩]) (fun x hx => h x (List.mem_cons_of_mem _ hx))
    refine ⟨⟨t.f0, (i : Int), t.f2⟩ :: ts', ?_, ?_⟩
    · show rs i .sk ts (pieceL note t ++ textL note l) = _
      rw [rs_app_go (rs_piece note hn t (h t List.mem_cons_self) i ts), h1, List.append_assoc]; rfl
    · rw [List.map_cons, List.map_cons, h2]; rfl
theorem Placed.all {bs : List Int} : ∀ {e : Nat} {ts : List Tk}, Placed bs e ts → ∀ t ∈ ts, okT t ∧ ∃ (a : Nat) (rest : List Int), bs.drop a = wof t ++ rest
  | _, [], _, t, h => by cases h
  | _, x :: r, ⟨hok, a, _, _, ⟨rest, hr⟩, hp⟩, t, h => by
    rcases List.mem_cons.1 h with rfl | h
    · exact ⟨hok, a, rest, hr⟩
    · exact Placed.all hp t h
theorem word_asc : ∀ c : Fin 256, pWord (c.val : Int) = true → (c.val : Int) < 128 := by decide +kernel
theorem word_lt {x : Int} (h0 : 0 ≤ x ∧ x ≤ 255) (h : pWord x = true) : 0 ≤ x ∧ x < 128 := by
  obtain ⟨c, hc⟩ : ∃ c : Fin 256, (c.val : Int) = x := ⟨⟨x.toNat, by omega⟩, by simp; omega⟩
  subst hc
  exact ⟨h0.1, word_asc c h⟩
theorem V_wof {bs : List Int} (hv : V bs) {t : Tk} (h : okT t) {a : Nat} {rest : List Int} (hd : bs.drop a = wof t ++ rest) : V (wof t) := by
  have hrg := bytesOf_range t.f2
  unfold wof at hd ⊢
  rcases h with ⟨h1, c, l, h2, h3, h4, h5, h6⟩ | ⟨h1, h2⟩ | ⟨c, hc, h1, h2⟩
  · rw [if_neg (by omega), h2]
    rw [h2] at hrg
    apply V_ascii
    intro x hx
    have hr := hrg x hx
    rcases List.mem_cons.1 hx with rfl | hx
    · obtain ⟨q, hq⟩ : ∃ q : Fin 256, (q.val : Int) = x := ⟨⟨x.toNat, by omega⟩, by simp; omega⟩
      have := letter_word q (by rw [hq]; exact h5)
      rw [hq] at this
      exact word_lt hr this
    · exact word_lt hr (h6 x hx)
  · rw [if_pos h1] at hd ⊢
    have e : bs = bs.take a ++ 34 :: (escL (bytesOf t.f2) ++ 34 :: rest) := by
      have e0 := (List.take_append_drop a bs).symm
      rw [hd] at e0
      exact e0.trans (by simp)
    rw [e] at hv
    have v1 := ((V_split _ 34 _ (by omega) (by omega)).1 hv).2
    have v2 := ((V_split _ 34 _ (by omega) (by omega)).1 v1).1
    exact (V_split [] 34 _ (by omega) (by omega)).2 ⟨V_nil, (V_split _ 34 [] (by omega) (by omega)).2 ⟨v2, V_nil⟩⟩
  · rw [if_neg (by rw [h1]; exact opIdx_ne c), h2]
    apply V_ascii
    intro x hx
    simp at hx
    omega
theorem text_rng (note : List Int) (hn : Rng note) (ts : List Tk) : Rng (textL note ts) := by
  intro x hx
  unfold textL at hx
  obtain ⟨t, _, hx⟩ := List.mem_flatMap.1 hx
  unfold pieceL at hx
  rcases List.mem_append.1 hx with hx | hx
  · exact wof_rng t x hx
  · rcases List.mem_cons.1 hx with rfl | hx
    · omega
    · rcases List.mem_append.1 hx with hx | hx
      · exact hn x hx
      · simp at hx; omega
theorem V_text (note : List Int) (hn : V note) (ts : List Tk) (h : ∀ t ∈ ts, V (wof t)) : V (textL note ts) := by
  induction ts with
  | nil => exact V_nil
  | cons t ts ih =>
    show V (pieceL note t ++ textL note ts)
    refine V_app ?_ (ih fun x hx => h x (List.mem_cons_of_mem _ hx))
    unfold pieceL
    refine (V_split _ 35 _ (by omega) (by omega)).2 ⟨h t List.mem_cons_self, ?_⟩
    exact (V_split note 10 [9] (by omega) (by omega)).2 ⟨hn, V_ascii _ (by decide)⟩
theorem text_len (note : List Int) (hn : note.length ≤ 100) (ts : List Tk) (h : ∀ t ∈ ts, (wof t).length ≤ 1000) : (textL note ts).length ≤ ts.length * 1103 := by
  induction ts with
  | nil => simp [textL]
  | cons t ts ih =>
    have := ih fun x hx => h x (List.mem_cons_of_mem _ hx)
    have h1 := h t List.mem_cons_self
    show (pieceL note t ++ textL note ts).length ≤ _
    unfold pieceL
    simp only [List.length_append, List.length_cons, List.length_nil]
    omega
theorem text_next (note : ByteArray) (ts : List Tk) (i : Nat) (hi : i < ts.length) (w : ByteArray) (hw : bytesOf w = wof (rd_T31 ts (i : Int))) :
    strOfNums (textL (bytesOf note) (ts.take i)) ++ w ++ (⟨#[35]⟩ : ByteArray) ++ note ++ (⟨#[10, 9]⟩ : ByteArray) = strOfNums (textL (bytesOf note) (ts.take (i + 1))) := by
  have b35 : bytesOf (⟨#[35]⟩ : ByteArray) = [35] := by decide +kernel
  have b10 : bytesOf (⟨#[10, 9]⟩ : ByteArray) = [10, 9] := by decide +kernel
  apply bytesOf_inj
  rw [bytesOf_app, bytesOf_app, bytesOf_app, bytesOf_app, b35, b10, hw, bytesOf_str _ (text_rng _ (bytesOf_range note) _), bytesOf_str _ (text_rng _ (bytesOf_range note) _)]
  have ht : ts.take (i + 1) = ts.take i ++ [rd_T31 ts (i : Int)] := by
    rw [List.take_add_one]
    congr 1
    unfold rd_T31
    rw [Int.toNat_natCast, List.getD_eq_getElem?_getD, List.getElem?_eq_getElem hi]; rfl
  rw [ht]
  simp [textL, pieceL]
theorem notes_l2 (ts us : List Tk) (hk : us.map key = ts.map key) (hl : ts.length ≤ 1000) (d : Nat) : ∀ i : Nat, i ≤ ts.length → ts.length - i ≤ d → Ev (fun k => parapetlaw19_LexNotes.l2 k ts us (i : Int)) true := by
  have aw : Ev (fun k => (parapetlaw19_awake.f k).bind fun t163 => some t163) true := Ev.bind awake_ev (Ev.now _)
  have hlen : us.length = ts.length := by have := congrArg List.length hk; simpa using this
  induction d with
  | zero =>
    intro i hi hd
    refine Ev.step (fun k => ?_) aw
    simp only [parapetlaw19_LexNotes.l2]
    rw [if_neg (by omega)]
  | succ d ih =>
    intro i hi hd
    by_cases hlt : i < ts.length
    · have hki : key (rd_T31 us (i : Int)) = key (rd_T31 ts (i : Int)) := by
        have h1 : rd_T31 us (i : Int) = us[i]'(by omega) := by unfold rd_T31; rw [Int.toNat_natCast, List.getD_eq_getElem?_getD, List.getElem?_eq_getElem (by omega)]; rfl
        have h2 : rd_T31 ts (i : Int) = ts[i]'hlt := by unfold rd_T31; rw [Int.toNat_natCast, List.getD_eq_getElem?_getD, List.getElem?_eq_getElem hlt]; rfl
        rw [h1, h2]
        have := congrArg (fun l => l[i]?) hk
        simp only [List.getElem?_map] at this
        rw [List.getElem?_eq_getElem (by omega), List.getElem?_eq_getElem hlt] at this
        simpa using this
      unfold key at hki
      simp only [Prod.mk.injEq] at hki
      refine Ev.step (fun k => ?_) (ih (i + 1) (by omega) (by omega))
      simp only [parapetlaw19_LexNotes.l2]
      rw [if_pos (by omega), if_pos (by omega), if_pos (by omega), if_pos hki.1.symm, if_pos (by rw [hki.2]), w64 (by omega) (by omega)]
      rfl
    · refine Ev.step (fun k => ?_) aw
      simp only [parapetlaw19_LexNotes.l2]
      rw [if_neg (by omega)]
theorem notes_l1 (note : ByteArray) (hn : note.size ≤ 100) (h10 : ∀ x ∈ bytesOf note, x ≠ 10) (hnv : V (bytesOf note)) (ts : List Tk) (hl : ts.length ≤ 20)
    (hok : ∀ t ∈ ts, okT t) (hv : ∀ t ∈ ts, V (wof t)) (hlen : ∀ t ∈ ts, (wof t).length ≤ 1000) (d : Nat) : ∀ i : Nat, i ≤ ts.length → ts.length - i ≤ d →
    Ev (fun k => parapetlaw19_LexNotes.l1 k note ts (strOfNums (textL (bytesOf note) (ts.take i))) (i : Int)) true := by
  have aw : Ev (fun k => (parapetlaw19_awake.f k).bind fun t163 => some t163) true := Ev.bind awake_ev (Ev.now _)
  have hnl : (bytesOf note).length ≤ 100 := by rw [bytesOf_length]; exact hn
  have sz : ∀ i, i ≤ ts.length → (strOfNums (textL (bytesOf note) (ts.take i))).size ≤ 22060 := by
    intro i hi
    rw [str_size _ (text_rng _ (bytesOf_range note) _)]
    have := text_len (bytesOf note) hnl (ts.take i) (fun t ht => hlen t (List.mem_of_mem_take ht))
    rw [List.length_take] at this
    omega
  have stop : ∀ i : Nat, i ≤ ts.length → ¬ i < ts.length → Ev (fun k => parapetlaw19_LexNotes.l1 k note ts (strOfNums (textL (bytesOf note) (ts.take i))) (i : Int)) true := by
    intro i hi hni
    have hi2 : i = ts.length := by omega
    subst hi2
    rw [List.take_length]
    have hb : bytesOf (strOfNums (textL (bytesOf note) ts)) = textL (bytesOf note) ts := bytesOf_str _ (text_rng _ (bytesOf_range note) _)
    by_cases h3 : (strOfNums (textL (bytesOf note) ts)).size > 3000
    · refine Ev.step (fun k => ?_) aw
      simp only [parapetlaw19_LexNotes.l1]
      rw [if_neg (by omega), if_pos (by omega)]
    · obtain ⟨us, hu1, hu2⟩ := rs_text (bytesOf note) h10 ts 0 [] hok
      have tk : tokM (strOfNums (textL (bytesOf note) ts)) = (us, 0, 0) := by
        refine tokM_of _ (by omega) ?_ ?_
        · rw [hb]; exact V_text _ hnv ts hv
        · rw [hb, sm_rs, hu1]; rfl
      have hul : us.length = ts.length := by have := congrArg List.length hu2; simpa using this
      have te := tokens_ev (strOfNums (textL (bytesOf note) ts))
      rw [tk] at te
      refine Ev.step (fun k => ?_) (Ev.bind te (f := fun k bt253 => (if bt253.2.1 = 0 then (parapetlaw19_LexNotes.j4 k ts bt253.1 ((bt253.1.length : Int) != (ts.length : Int))) else (parapetlaw19_LexNotes.j4 k ts bt253.1 true))) ?_)
      · simp only [parapetlaw19_LexNotes.l1]
        rw [if_neg (by omega), if_neg (by omega)]
      · refine Ev.step (fun k => ?_) (notes_l2 ts us hu2 (by omega) ts.length 0 (Nat.zero_le _) (by omega))
        simp only [if_true, parapetlaw19_LexNotes.j4]
        rw [if_neg (by rw [hul]; simp)]
        rfl
  induction d with
  | zero => intro i hi hd; exact stop i hi (by omega)
  | succ d ih =>
    intro i hi hd
    by_cases hlt : i < ts.length
    · have nx := ih (i + 1) (by omega) (by omega)
      have hm : rd_T31 ts (i : Int) ∈ ts := by
        have h2 : rd_T31 ts (i : Int) = ts[i]'hlt := by unfold rd_T31; rw [Int.toNat_natCast, List.getD_eq_getElem?_getD, List.getElem?_eq_getElem hlt]; rfl
        rw [h2]; exact List.getElem_mem hlt
      have hs1 := sz i hi
      have hs2 := hlen _ hm
      have hl35 : (⟨#[35]⟩ : ByteArray).size = 1 := rfl
      have tn := text_next note ts i hlt
      generalize ht : rd_T31 ts (i : Int) = t at *
      generalize hX : strOfNums (textL (bytesOf note) (ts.take i)) = X at *
      by_cases h2 : t.f0 = 2
      · have hw : wof t = quoteL (bytesOf t.f2) := by unfold wof; rw [if_pos h2]; rfl
        have hq := quote_ev t.f2 (by
            have h1 := escL_ge (bytesOf t.f2)
            rw [bytesOf_length] at h1
            rw [hw] at hs2
            unfold quoteL at hs2
            simp at hs2; omega)
        rw [← hw] at hq
        have hbw := bytesOf_str (wof t) (wof_rng t)
        have hsw := str_size (wof t) (wof_rng t)
        have tn2 := tn (strOfNums (wof t)) hbw
        generalize strOfNums (wof t) = w at *
        refine Ev.step (fun k => ?_) (Ev.bind hq (f := fun k t251 => (if X.size + t251.size ≤ 9223372036854775807 then (if (X ++ t251).size + 1 ≤ 9223372036854775807 then (if ((X ++ t251) ++ (⟨#[35]⟩ : ByteArray)).size + note.size ≤ 9223372036854775807 then (if (((X ++ t251) ++ (⟨#[35]⟩ : ByteArray)) ++ note).size + 2 ≤ 9223372036854775807 then (parapetlaw19_LexNotes.l1 k note ts ((((X ++ t251) ++ (⟨#[35]⟩ : ByteArray)) ++ note) ++ (⟨#[10, 9]⟩ : ByteArray)) (wrap64 ((i : Int) + 1))) else (none)) else (none)) else (none)) else (none))) ?_)
        · simp only [parapetlaw19_LexNotes.l1, ht]
          rw [if_pos (by omega), if_pos (by omega), if_pos h2]
        · refine Ev.congr (fun k => ?_) nx
          rw [if_pos (by omega), if_pos (by simp only [ByteArray.size_append]; omega), if_pos (by simp only [ByteArray.size_append, hl35]; omega), if_pos (by simp only [ByteArray.size_append, hl35]; omega), w64 (by omega) (by omega), tn2]
          rfl
      · have hw : bytesOf t.f2 = wof t := by unfold wof; rw [if_neg h2]
        have hsw : t.f2.size = (wof t).length := by rw [← hw, bytesOf_length]
        have tn2 := tn t.f2 hw
        refine Ev.step (fun k => ?_) nx
        simp only [parapetlaw19_LexNotes.l1, ht]
        rw [if_pos (by omega), if_pos (by omega), if_neg h2, if_pos (by omega), if_pos (by simp only [ByteArray.size_append]; omega), if_pos (by simp only [ByteArray.size_append, hl35]; omega), if_pos (by simp only [ByteArray.size_append, hl35]; omega), w64 (by omega) (by omega), tn2]
        rfl
    · exact stop i hi hlt
theorem notes_l0 (s note : ByteArray) (hs : s.size ≤ 1000) (hn : note.size ≤ 100) (hnv : V (bytesOf note)) (d : Nat) : ∀ i : Nat, i ≤ note.size → note.size - i ≤ d → (∀ j : Nat, j < i → bt note (j : Int) ≠ 10) →
    Ev (fun k => parapetlaw19_LexNotes.l0 k s note (i : Int)) true := by
  have aw : Ev (fun k => (parapetlaw19_awake.f k).bind fun t163 => some t163) true := Ev.bind awake_ev (Ev.now _)
  have jt : ∀ ts, Ev (fun k => parapetlaw19_LexNotes.j2 k note ts true) true := by
    intro ts
    refine Ev.step (fun k => ?_) aw
    simp only [parapetlaw19_LexNotes.j2, if_true]
  have stop : ∀ i : Nat, i ≤ note.size → ¬ i < note.size → (∀ j : Nat, j < i → bt note (j : Int) ≠ 10) → Ev (fun k => parapetlaw19_LexNotes.l0 k s note (i : Int)) true := by
    intro i hi hni hj
    have h10 : ∀ x ∈ bytesOf note, x ≠ 10 := by
      intro x hx
      obtain ⟨j, hj2, rfl⟩ := List.getElem_of_mem hx
      rw [bytesOf_length] at hj2
      have := hj j (by omega)
      rw [← rd_bytesOf, rd, Int.toNat_natCast, List.getD_eq_getElem?_getD, List.getElem?_eq_getElem (by rw [bytesOf_length]; exact hj2)] at this
      exact this
    refine Ev.step (fun k => ?_) (Ev.bind (tokens_ev s) (f := fun k bt242 => (if bt242.2.1 = 0 then (parapetlaw19_LexNotes.j2 k note bt242.1 (decide ((bt242.1.length : Int) > 20))) else (parapetlaw19_LexNotes.j2 k note bt242.1 true))) ?_)
    · simp only [parapetlaw19_LexNotes.l0]
      rw [if_neg (by omega)]
    · rcases tokM_cases s with ⟨ts, h1, h2, h3, h4⟩ | ⟨j, h1, h2⟩ | ⟨h1, h2⟩
      · rw [h1]
        simp only [if_true]
        by_cases h20 : (ts.length : Int) > 20
        · simp only [h20, decide_true]; exact jt ts
        · simp only [h20, decide_false]
          have hp := placed s ts h2
          have hall := hp.all
          refine Ev.step (fun k => ?_) (notes_l1 note hn h10 hnv ts (by omega) (fun t ht => (hall t ht).1) ?_ ?_ ts.length 0 (Nat.zero_le _) (by omega))
          · simp only [parapetlaw19_LexNotes.j2]
            rw [if_neg (by simp)]
            rfl
          · intro t ht
            obtain ⟨hok, a, rest, hd⟩ := hall t ht
            exact V_wof h3 hok hd
          · intro t ht
            obtain ⟨hok, a, rest, hd⟩ := hall t ht
            have := congrArg List.length hd
            rw [List.length_drop, bytesOf_length, List.length_append] at this
            omega
      · rw [h1]
        have e1 : ¬ ((8 : Int) = 0) := by omega
        simp only [e1, if_false]
        exact jt []
      · rw [h1]
        have e1 : ¬ ((2 : Int) = 0) := by omega
        simp only [e1, if_false]
        exact jt []
  induction d with
  | zero => intro i hi hd hj; exact stop i hi (by omega) hj
  | succ d ih =>
    intro i hi hd hj
    by_cases hlt : i < note.size
    · by_cases q : bt note (i : Int) = 10
      · refine Ev.step (fun k => ?_) aw
        simp only [parapetlaw19_LexNotes.l0]
        rw [if_pos (by omega), if_pos (by omega), if_pos q]
      · refine Ev.step (fun k => ?_) (ih (i + 1) (by omega) (by omega) ?_)
        · simp only [parapetlaw19_LexNotes.l0]
          rw [if_pos (by omega), if_pos (by omega), if_neg q, w64 (by omega) (by omega)]
          rfl
        · intro j hj2
          by_cases e : j = i
          · rw [e]; exact q
          · exact hj j (by omega)
    · exact stop i hi hlt hj
theorem lexnotes : parapetlaw19_LexNotes.Pure := by
  intro a0 a1 _ _
  have aw : Ev (fun k => (parapetlaw19_awake.f k).bind fun t163 => some t163) true := Ev.bind awake_ev (Ev.now _)
  have yes : Ev (fun k => parapetlaw19_LexNotes.j0 k a0 a1 true) true := by
    refine Ev.step (fun k => ?_) aw
    simp only [parapetlaw19_LexNotes.j0, if_true]
  have : Ev (fun k => parapetlaw19_LexNotes.f k a0 a1) true := by
    unfold parapetlaw19_LexNotes.f
    by_cases h : (a0.size : Int) > 1000
    · simp only [h, if_true]; exact yes
    · simp only [h, if_false]
      by_cases h2 : (a1.size : Int) > 100
      · simp only [h2, if_true]; exact yes
      · simp only [h2, if_false]
        refine Ev.bind (utf8_ev a1 (by omega)) ?_
        cases hv : Go.Lib.validD a1.data.toList with
        | false => exact yes
        | true =>
          have hV : V (bytesOf a1) := (V_bytes a1).2 (by have := (valid_brk _ a1.data.toList (Nat.le_refl _)).1 hv; rw [data_length] at this; exact this)
          refine Ev.step (fun k => ?_) (notes_l0 a0 a1 (by omega) (by omega) hV a1.size 0 (Nat.zero_le _) (by omega) (fun j hj => by omega))
          simp only [parapetlaw19_LexNotes.j0]
          rw [if_neg (by simp)]
          rfl
  exact this.rounds
end Go.Proofs.YtlhllcbglfffdaaDoor.Pu
