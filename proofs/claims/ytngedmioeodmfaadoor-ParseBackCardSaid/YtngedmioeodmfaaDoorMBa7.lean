/- 5 texts of the proof, put together, less what is not used; what a tool printed stands among them. -/
import Derived.Test.YtngedmioeodmfaaDoorMBa6
namespace Go.Proofs.YtngedmioeodmfaaDoor.Pu
open Go.RowKit Go.Proofs.YtngedmioeodmfaaDoor.Pr Go.Proofs.YtngedmioeodmfaaDoorW.PrintWords Go.Proofs.YtngedmioeodmfaaDoor.Lx
open Go.Proofs.YtngedmioeodmfaaDoor.Ps hiding Tk
set_option linter.unusedVariables false
set_option linter.unusedSimpArgs false
theorem size_app (a b : ByteArray) : (a ++ b).size = a.size + b.size := by
  rw [← bytesOf_length, bytesOf_app, List.length_append, bytesOf_length, bytesOf_length]
theorem size_quote (s : ByteArray) : (quoteB s).size ≤ 2 * s.size + 2 := by
  rw [← bytesOf_length, bytes_quote]
  have := escL_le (bytesOf s)
  rw [bytesOf_length] at this
  unfold quoteL
  simp only [List.length_cons, List.length_append, List.length_nil]; omega
theorem join_le (sep : ByteArray) : ∀ l : List ByteArray, (joinB l sep).size ≤ (l.map fun x => x.size + sep.size).sum
  | [] => by unfold joinB; exact Nat.zero_le _
  | [x] => by rw [joinB_one]; simp
  | x :: y :: l => by
    have ih := join_le sep (y :: l)
    have e : (joinB (x :: y :: l) sep).size = x.size + (sep.size + (joinB (y :: l) sep).size) := by
      rw [← bytesOf_length, join_two, List.length_append, List.length_append, bytesOf_length, bytesOf_length, bytesOf_length]
    rw [e, List.map_cons, List.sum_cons]
    omega
theorem sum_le {K : Nat} : ∀ {l : List Nat}, (∀ x ∈ l, x ≤ K) → l.sum ≤ l.length * K
  | [], _ => by simp
  | x :: l, h => by
    have h1 := h x (List.mem_cons_self ..)
    have h2 := sum_le (fun y hy => h y (List.mem_cons_of_mem _ hy))
    rw [List.sum_cons, List.length_cons, Nat.succ_mul]; omega
theorem among_le (k : Int) (t : ByteArray) : (amongB k t).size ≤ t.size + 2 := by
  unfold amongB
  split
  · rw [size_app, size_app]
    have e1 : bOpen.size = 1 := rfl
    have e2 : bShut.size = 1 := rfl
    omega
  · omega
theorem kids_le {sep : ByteArray} (hs : sep.size ≤ 5) : ∀ {l : List Cd}, (∀ c ∈ l, (condT c).size + 20 ≤ 6100 * sizeC c) → ((amongsT l).map fun x => x.size + sep.size).sum ≤ 6100 * sizeL l
  | [], _ => by simp [amongsT]
  | c :: l, h => by
    have h1 := h c (List.mem_cons_self ..)
    have h2 := kids_le hs (fun d hd => h d (List.mem_cons_of_mem _ hd))
    have h3 := among_le c.f0 (condT c)
    rw [amongsT, List.map_cons, List.sum_cons, sizeL]
    omega
theorem kidsB_le {sep : ByteArray} (hs : sep.size ≤ 5) {l : List Cd} (h : ∀ c ∈ l, (condT c).size + 20 ≤ 6100 * sizeC c) : (joinB (amongsT l) sep).size ≤ 6100 * sizeL l := Nat.le_trans (join_le sep _) (kids_le hs h)
theorem shape_le {c : Cd} (h : Shape c) : (condT c).size + 20 ≤ 6100 * sizeC c := by
  induction h with
  | true_ =>
    rw [show condT (cond0 1 []) = wTrue from by rw [condT_eq]; rfl, sizeC_eq]
    have : wTrue.size = 4 := rfl
    omega
  | false_ =>
    rw [show condT (cond0 2 []) = wFalse from by rw [condT_eq]; rfl, sizeC_eq]
    have : wFalse.size = 5 := rfl
    omega
  | bare w hw =>
    have e1 : condT ⟨3, ⟨w, ⟨#[]⟩⟩, []⟩ = w := by
      rw [condT_eq]
      simp only [List.mem_cons, List.mem_nil_iff, or_false] at hw
      rcases hw with rfl | rfl | rfl | rfl <;> decide +kernel
    have : w.size ≤ 20 := by
      simp only [List.mem_cons, List.mem_nil_iff, or_false] at hw
      rcases hw with rfl | rfl | rfl | rfl <;> decide +kernel
    rw [e1, sizeC_eq]
    omega
  | wordA w t hw ht _ =>
    have hn : ¬ (w = wHost ∨ w = wPath) := by
      simp only [List.mem_cons, List.mem_nil_iff, or_false] at hw
      rcases hw with rfl | rfl | rfl | rfl <;> decide +kernel
    have hy : w = wMethod ∨ w = wDest ∨ w = wScheme ∨ w = wHeader := by simpa using hw
    have e1 : condT ⟨3, ⟨w, t⟩, []⟩ = w ++ bSp ++ t := by
      rw [condT_eq]
      rw [if_neg (show ¬ (3 : Int) = 1 by decide), if_neg (show ¬ (3 : Int) = 2 by decide), if_neg (show ¬ (3 : Int) = 4 by decide), if_neg (show ¬ (3 : Int) = 5 by decide), if_neg (show ¬ (3 : Int) = 6 by decide), if_neg hn, if_pos hy]
    have h1 : w.size ≤ 20 := by rcases hy with rfl | rfl | rfl | rfl <;> decide +kernel
    have h2 : bSp.size = 1 := rfl
    have h3 := ht.2
    rw [e1, size_app, size_app, sizeC_eq]
    omega
  | strA w t hw ht =>
    have hy : w = wHost ∨ w = wPath := by simpa using hw
    have e1 : condT ⟨3, ⟨w, t⟩, []⟩ = w ++ bSp ++ quoteB t := by
      rw [condT_eq]
      rw [if_neg (show ¬ (3 : Int) = 1 by decide), if_neg (show ¬ (3 : Int) = 2 by decide), if_neg (show ¬ (3 : Int) = 4 by decide), if_neg (show ¬ (3 : Int) = 5 by decide), if_neg (show ¬ (3 : Int) = 6 by decide), if_pos hy]
    have h1 : w.size ≤ 20 := by rcases hy with rfl | rfl <;> decide +kernel
    have h2 : bSp.size = 1 := rfl
    have h3 := ht.2.2
    have h4 := size_quote t
    rw [e1, size_app, size_app, sizeC_eq]
    omega
  | not_ c hc ih =>
    have h1 := kidsB_le (sep := bAnd) (by decide) (l := [c]) (fun d hd => by rw [List.mem_singleton.1 hd]; exact ih)
    rw [condT_eq, sizeC_eq]
    show (bNot ++ joinB (amongsT [c]) bAnd).size + 20 ≤ 6100 * (1 + sizeL [c])
    rw [size_app]
    have : bNot.size = 4 := rfl
    omega
  | many k hk l hl h ih =>
    rw [condT_eq, sizeC_eq]
    rcases hk with rfl | rfl
    · have h1 := kidsB_le (sep := bAnd) (by decide) ih
      show (joinB (amongsT l) bAnd).size + 20 ≤ 6100 * (1 + sizeL l)
      omega
    · have h1 := kidsB_le (sep := bOr) (by decide) ih
      show (joinB (amongsT l) bOr).size + 20 ≤ 6100 * (1 + sizeL l)
      omega
theorem shape_okT {c : Cd} (h : Shape c) : sizeC c ≤ 100000 → OkT c := by
  induction h with
  | true_ => intro hz; have := shape_le .true_; exact .mk _ (fun k hk => by cases hk) (fun h => by rcases h with h | h | h <;> cases h) (by decide) (by decide) (by decide) (by omega)
  | false_ => intro hz; have := shape_le .false_; exact .mk _ (fun k hk => by cases hk) (fun h => by rcases h with h | h | h <;> cases h) (by decide) (by decide) (by decide) (by omega)
  | bare w hw =>
    intro hz
    have := shape_le (.bare w hw)
    refine .mk _ (fun k hk => by cases hk) (fun h => by rcases h with h | h | h <;> cases h) (Nat.zero_le _) ?_ (Nat.zero_le _) (by omega)
    show w.size ≤ 1000000
    simp only [List.mem_cons, List.mem_nil_iff, or_false] at hw
    rcases hw with rfl | rfl | rfl | rfl <;> decide +kernel
  | wordA w t hw ht hlow =>
    intro hz
    have := shape_le (.wordA w t hw ht hlow)
    have h2 := ht.2
    refine .mk _ (fun k hk => by cases hk) (fun h => by rcases h with h | h | h <;> cases h) (Nat.zero_le _) ?_ (by show t.size ≤ 1000000; omega) (by omega)
    show w.size ≤ 1000000
    simp only [List.mem_cons, List.mem_nil_iff, or_false] at hw
    rcases hw with rfl | rfl | rfl | rfl <;> decide +kernel
  | strA w t hw ht =>
    intro hz
    have := shape_le (.strA w t hw ht)
    have h2 := ht.2.2
    refine .mk _ (fun k hk => by cases hk) (fun h => by rcases h with h | h | h <;> cases h) (Nat.zero_le _) ?_ (by show t.size ≤ 1000000; omega) (by omega)
    show w.size ≤ 1000000
    simp only [List.mem_cons, List.mem_nil_iff, or_false] at hw
    rcases hw with rfl | rfl <;> decide +kernel
  | not_ c hc ih =>
    intro hz
    have := shape_le (.not_ c hc)
    have h1 : sizeC c ≤ 100000 := by rw [sizeC_eq] at hz; have := size_mem (l := [c]) (List.mem_singleton.2 rfl); have h2 : sizeL (cond0 4 [c]).f2 = sizeL [c] := rfl; omega
    exact .mk _ (fun k hk => by rw [List.mem_singleton.1 hk]; exact ih h1) (fun _ => Nat.zero_lt_one) (by show 1 ≤ 1000000; decide) (Nat.zero_le _) (Nat.zero_le _) (by omega)
  | many k hk l hl h ih =>
    intro hz
    have := shape_le (.many k hk l hl h)
    have h1 : sizeL l ≤ 100000 := by rw [sizeC_eq] at hz; have h2 : sizeL (cond0 k l).f2 = sizeL l := rfl; omega
    exact .mk _ (fun d hd => ih d hd (Nat.le_trans (size_mem hd) h1)) (fun _ => by show 0 < l.length; omega) (by show l.length ≤ 1000000; have := sizeL_len l; omega) (Nat.zero_le _) (Nat.zero_le _) (by omega)
theorem addAll_le {pre : ByteArray} : ∀ (l : List ByteArray) (a : ByteArray), (∀ m ∈ l, m.size ≤ 3000) → pre.size ≤ 10 → (addAll pre a l).size ≤ a.size + l.length * 3010
  | [], a, _, _ => by simp [addAll]
  | m :: l, a, h, hp => by
    have h1 := h m (List.mem_cons_self ..)
    have h2 := addAll_le l (a ++ (pre ++ m)) (fun x hx => h x (List.mem_cons_of_mem _ hx)) hp
    have e1 : addAll pre a (m :: l) = addAll pre (a ++ (pre ++ m)) l := rfl
    rw [size_app, size_app] at h2
    rw [e1, List.length_cons, Nat.succ_mul]; omega
theorem share_le {s : Sh} (h : ShareOk s) (h1 : s.f1.length ≤ 3000) (h2 : s.f2.length ≤ 3000) : (shareT s).size ≤ 100000000 := by
  have e1 := addAll_le (pre := bMeth) s.f1 (bShare ++ quoteB s.f0) (fun m hm => (h.m m hm).2) (by decide)
  have e2 := addAll_le (pre := bHead) s.f2 (addAll bMeth (bShare ++ quoteB s.f0) s.f1) (fun m hm => (h.h m hm).2) (by decide)
  have e3 := size_quote s.f0
  have e4 := h.o.2.2
  have e5 : bShare.size = 6 := rfl
  have e6 : bCred.size = 6 := rfl
  rw [size_app] at e1
  have e7 : s.f1.length * 3010 ≤ 3000 * 3010 := Nat.mul_le_mul_right _ h1
  have e8 : s.f2.length * 3010 ≤ 3000 * 3010 := Nat.mul_le_mul_right _ h2
  unfold shareT
  dsimp only
  split
  · rw [size_app]; omega
  · omega
theorem ReadP.okP {st : Pst} (h : ReadP st) : OkP st.csp st.shares st.mixed st.rules st.allow := by
  have hn := h.a.n
  have hi := h.a.i
  have hc : ∀ s ∈ st.csp, s.size ≤ 3000 := fun s hs => (h.a.c s hs).2.2
  have hm : st.mixed.size ≤ 20 := by rcases h.a.m with e | e | e <;> rw [e] <;> decide +kernel
  have hr : ∀ r ∈ st.rules, (condT r.f1).size + 20 ≤ 6100 * sizeC r.f1 ∧ sizeC r.f1 ≤ 3000 := fun r hr => ⟨shape_le (h.a.r r hr).1, (h.a.r r hr).2⟩
  have hsay : ∀ b, (sayB b).size ≤ 20 := by intro b; cases b <;> decide +kernel
  refine ⟨by omega, fun s hs => ?_, by omega, fun s hs => ?_, fun s hs => ?_, fun s hs => ?_, by omega, by omega, fun r hr' => shape_okT (h.a.r r hr').1 (by have := (h.a.r r hr').2; omega), ?_⟩
  · have := hc s hs
    have := size_quote s
    omega
  · have := (h.a.s s hs).1.o.2.2
    have := size_quote s.f0
    omega
  · obtain ⟨h1, h2, h3⟩ := h.a.s s hs
    exact ⟨by omega, fun m hm => by have := (h1.m m hm).2; omega⟩
  · obtain ⟨h1, h2, h3⟩ := h.a.s s hs
    exact ⟨by omega, fun m hm => by have := (h1.h m hm).2; omega⟩
  · have hl : (linesT st.csp st.shares st.mixed st.rules st.allow).length ≤ 62 := by
      simp only [linesT, List.length_append, List.length_map, List.length_singleton]; omega
    have hb : bSemi.size = 2 := rfl
    have hK : ∀ y ∈ (linesT st.csp st.shares st.mixed st.rules st.allow).map (fun x => x.size + bSemi.size), y ≤ 1000000000 := by
      intro y hy
      obtain ⟨x, hx, rfl⟩ := List.mem_map.1 hy
      suffices x.size ≤ 900000000 by omega
      simp only [linesT, List.mem_append, List.mem_map, List.mem_singleton] at hx
      rcases hx with (((⟨s, hs, rfl⟩ | ⟨s, hs, rfl⟩) | rfl) | ⟨r, hr', rfl⟩) | rfl
      · have h1 := hc s hs
        have h2 := size_quote s
        have h3 : bCsp.size = 4 := rfl
        rw [cspT, size_app]; omega
      · obtain ⟨h1, h2, h3⟩ := h.a.s s hs
        have := share_le h1 h2 h3
        omega
      · have h3 : bMix.size = 6 := rfl
        rw [size_app]; omega
      · obtain ⟨h1, h2⟩ := hr r hr'
        have h3 : bIf.size = 4 := rfl
        have h4 := hsay r.f0
        rw [ruleT, size_app, size_app]; omega
      · have h3 : bDef.size = 8 := rfl
        have h4 := hsay st.allow
        rw [size_app]; omega
    have h1 := join_le bSemi (linesT st.csp st.shares st.mixed st.rules st.allow)
    have h2 := sum_le hK
    rw [List.length_map] at h2
    have h3 : (linesT st.csp st.shares st.mixed st.rules st.allow).length * 1000000000 ≤ 62 * 1000000000 := Nat.mul_le_mul_right _ hl
    omega
end Go.Proofs.YtngedmioeodmfaaDoor.Pu
namespace Go.Proofs.YtngedmioeodmfaaDoor.Pu
open Go.RowKit Go.Proofs.YtngedmioeodmfaaDoor.Pr Go.Proofs.YtngedmioeodmfaaDoorW.PrintWords Go.Proofs.YtngedmioeodmfaaDoorW.PrintLast Go.Proofs.YtngedmioeodmfaaDoorW.PrintMore Go.Proofs.YtngedmioeodmfaaDoor.Lx
open Go.Proofs.YtngedmioeodmfaaDoor.Ps hiding Tk
set_option linter.unusedVariables false
set_option linter.unusedSimpArgs false
theorem pol_any0 (x : ByteArray) (w : World) (hL : Laid w) : Calls Tryd.prog 12 #[.string x] w (PolQ w (polA x)) := by
  obtain ⟨k, hk⟩ := tokens_ev x
  obtain ⟨T, hT⟩ : ∃ T, T = tokM x := ⟨_, rfl⟩
  have h := hk k (Nat.le_refl _)
  have ho := okTk_iff.1 (okTk_tokM x)
  rw [polA]
  rw [← hT] at h ho ⊢
  obtain ⟨T, c, a⟩ := T
  exact policy_calls0 x k T c a w hL h ho.2 ho.1
theorem pol_any (x : ByteArray) (hx : x.size ≤ 1000000) (w : World) (hL : Laid w) : Calls Tryd.prog 12 #[.string x] w (PolQ w (polA x)) := pol_any0 x w hL
def awakeC : Cd := ⟨5, ⟨⟨#[]⟩, ⟨#[]⟩⟩, [⟨4, ⟨⟨#[]⟩, ⟨#[]⟩⟩, [⟨3, ⟨wHost, ⟨#[97]⟩⟩, []⟩]⟩, ⟨6, ⟨⟨#[]⟩, ⟨#[]⟩⟩, [⟨3, ⟨wCreds, ⟨#[]⟩⟩, []⟩, ⟨3, ⟨wCors, ⟨#[]⟩⟩, []⟩]⟩]⟩
theorem polA_awake : polA awakeT = .ok ⟨[], [], wBlock, [⟨true, awakeC⟩], false, 1, 0, 0⟩ := by kernel_rfl
theorem rule_open {w : World} {base : Nat} {ok : Nat → Prop} {v : Value} {c : Rl} (h : k51.R 51 w base ok v [c]) : ∃ gl cap v4, v = .slice (some ⟨gl, 0, none⟩) 1 cap ∧ 1 ≤ cap ∧ w.cell? ⟨gl, 1, none⟩ = some (.int .i64 c.f1.f0) ∧ w.cell? ⟨gl, 4, none⟩ = some v4 ∧ ∃ ok', k49.R 49 w base ok' v4 c.f1.f2 := by
  obtain ⟨gl, cap, rfl, _, _, _⟩ := Kd.R_form h (by simp)
  obtain ⟨A', c', he, hcc, _⟩ := Kd.R_reads h
  cases he
  obtain ⟨h0, inner, hown, hr⟩ := h
  have hlen : inner.length = 5 := hr.1
  have hM := hr.2 0 c rfl
  have hin : (inner.drop (0 * 5)).take 5 = inner := by rw [Nat.zero_mul, List.drop_zero, List.take_of_length_le (by omega)]
  have hM' : k51.M w base (fun k => ok k ∧ some k ≠ (Value.slice (some ⟨gl, 0, none⟩) 1 cap).ownBlock) c inner := by
    have h2 : k51.M w base (fun k => ok k ∧ some k ≠ (Value.slice (some ⟨gl, 0, none⟩) 1 cap).ownBlock) c ((inner.drop (0 * 5)).take 5) := hM
    rwa [hin] at h2
  obtain ⟨v4, e4, hR⟩ := k51_openM hM'
  subst e4
  exact ⟨gl, cap, v4, rfl, hcc, by simpa [add_plain] using hown.cells (g := gl) rfl 1 _ rfl, by simpa [add_plain] using hown.cells (g := gl) rfl 4 _ rfl, _, hR⟩
set_option maxHeartbeats 16000000 in
set_option maxRecDepth 100000 in
theorem awake_walk (w : World) (hL : Laid w) : Calls Tryd.prog 11 #[] w fun e w' => e = .returned (.bool true) ∧ Below w.heap.size w w' := by
  have h1 := pol_any awakeT (by decide) w hL
  rw [polA_awake] at h1
  have H1 := Aside0.mk h1
  clear h1 hL
  go_enter Tryd.func11, Tryd.ntmps11
  go_wp2_with fail
  refine H1.out.mono ?_
  rintro e w1 ⟨v0, v1, v3, rfl, hv, hb⟩
  unfold polcells faultV
  dsimp only
  have HB := Aside0.mk hb
  obtain ⟨A0, c0, e0⟩ := Kd.R_slice hv.rC
  obtain ⟨A1, c1, e1⟩ := Kd.R_slice hv.rS
  obtain ⟨g3, c3, v4, e3, hl3, lk, lq, ok4, hR4⟩ := rule_open hv.rR
  obtain ⟨g4, c4, e4, _, _, _⟩ := Kd.R_form hR4 (by decide)
  rw [e4] at lq hR4
  obtain ⟨ad2, A5, c5, hA2, r0, _q5⟩ := at_T49 (Kd.R_reads' hR4).2.2 1 (by decide) (by decide)
  obtain rfl : (⟨g4, 0, none⟩ : Addr) = ad2 := Option.some.inj hA2
  subst e0 e1 e3
  obtain ⟨w2, hw2⟩ : ∃ w2, w2 = (((w1.alloc (.cells #[.slice none 0 0, .slice none 0 0, .string ⟨#[]⟩, .slice none 0 0, .bool false] 27)).alloc (.cells #[.int .i64 0, .int .i64 0] 30)).setRow w1.heap.size (polcells (.slice A0 0 c0) (.slice A1 0 c1) wBlock (.slice (some ⟨g3, 0, none⟩) 1 c3) false)).setRow (w1.heap.size + 1) #[.int .i64 0, .int .i64 0] := ⟨_, rfl⟩
  have hb2 : Below w1.heap.size w1 w2 := by rw [hw2]; exact below_setRow (below_setRow (below_alloc (below_alloc (Below.refl _ _) _) _) (Nat.le_refl _) _) (Nat.le_succ _) _
  have p0 : w2.heap[w1.heap.size]? = some (.cells (polcells (.slice A0 0 c0) (.slice A1 0 c1) wBlock (.slice (some ⟨g3, 0, none⟩) 1 c3) false) 27 (0, 0)) := by rw [hw2]; exact (setRow_other _ _ _ _ (by omega)).trans (setRow_heap _ _ _ _ _ _ (blk_alloc (blk_new _ _) _))
  have p1 : w2.heap[w1.heap.size + 1]? = some (.cells #[.int .i64 0, .int .i64 0] 30 (0, 0)) := by rw [hw2]; exact setRow_heap _ _ _ _ _ _ ((setRow_other _ _ _ _ (by omega)).trans (blk_new2 _ _ _ _ _))
  have u0 : w2.cell? ⟨w1.heap.size + 1, 0, none⟩ = some (.int .i64 0) := blk_cell p1 0
  have u2 : w2.cell? ⟨w1.heap.size, 2, none⟩ = some (.string wBlock) := blk_cell p0 2
  have u3 : w2.cell? ⟨w1.heap.size, 3, none⟩ = some (.slice (some ⟨g3, 0, none⟩) 1 c3) := blk_cell p0 3
  replace lk : w1.cell? ⟨g3, 1, none⟩ = some (.int .i64 5) := lk
  replace lq : w1.cell? ⟨g3, 4, none⟩ = some (.slice (some ⟨g4, 0, none⟩) 2 c4) := lq
  have lr : w1.cell? ⟨g4, 4, none⟩ = some (.int .i64 6) := by simpa [add_plain, rd_T49, awakeC] using r0
  replace lk := (hb2.cell (World.block_lt_of_cell? w1 _ lk)).trans lk
  replace lq := (hb2.cell (World.block_lt_of_cell? w1 _ lq)).trans lq
  replace lr := (hb2.cell (World.block_lt_of_cell? w1 _ lr)).trans lr
  have HB2 := Aside0.mk (HB.out.trans (hb2.mono HB.out.size))
  have tb : (wBlock.toList == [98, 108, 111, 99, 107]) = true := by decide +kernel
  have hl4 : 2 ≤ c4 := (Kd.R_reads' hR4).2.1
  clear _q5 hv hb hR4 hA2 r0 hb2 p0 p1 HB H1
  go_upto_region 2 with (first | refine wpList_store_row rfl 27 _ _ rfl w1.heap.size (polcells (.slice A0 0 c0) (.slice A1 0 c1) wBlock (.slice (some ⟨g3, 0, none⟩) 1 c3) false) rfl rfl 27 (polcells (.slice none 0 0) (.slice none 0 0) ⟨#[]⟩ (.slice none 0 0) false) (blk_alloc (blk_new _ _) _) size_pol rfl (pol_one ⟨rfl, rfl, rfl⟩ _ _) ?_ | refine wpList_store_row rfl 30 _ _ rfl (w1.heap.size + 1) #[.int .i64 0, .int .i64 0] rfl rfl 30 #[.int .i64 0, .int .i64 0] ((setRow_other _ _ _ _ (by omega)).trans (blk_new2 _ _ _ _ _)) size_fault rfl (by simp [Value.oneCell']) ?_)
  rw [← hw2]
  clear hw2
  go_wp2
  go_ret
  exact ⟨rfl, HB2.out⟩
end Go.Proofs.YtngedmioeodmfaaDoor.Pu
namespace Go.Proofs.YtngedmioeodmfaaDoor.Pu
open Go.RowKit Go.Proofs.YtngedmioeodmfaaDoor.Pr Go.Proofs.YtngedmioeodmfaaDoorW.PrintWords Go.Proofs.YtngedmioeodmfaaDoorW.PrintLast Go.Proofs.YtngedmioeodmfaaDoorW.PrintMore Go.Proofs.YtngedmioeodmfaaDoor.Lx
open Go.Proofs.YtngedmioeodmfaaDoor.Ps hiding Tk
set_option linter.unusedVariables false
set_option linter.unusedSimpArgs false
def NZ {α : Type} (r : Except (Int × Int) α) : Prop := ∀ x, r = .error x → x.1 ≠ 0
theorem NZ.ok {α : Type} {a : α} : NZ (.ok a : Except (Int × Int) α) := fun _ h => by cases h
theorem NZ.err {α : Type} {c a : Int} (h : c ≠ 0) : NZ (.error (c, a) : Except (Int × Int) α) := fun _ he => by cases he; exact h
theorem NZ.bind {α β : Type} {r : Except (Int × Int) α} {s : Except (Int × Int) β} (h : NZ r) (he : ∀ x, r = .error x → s = .error x) (hk : ∀ a, r = .ok a → NZ s) : NZ s := by
  cases hr : r with
  | error x => rw [he x hr]; intro y hy; cases hy; exact h x hr
  | ok a => exact hk a hr
section
variable {T : List Tk} {e : Int}
theorem take_nz {k : Int} {p : Nat} : NZ (takeP T e k p) := by
  rw [takeP]; split
  · exact .ok
  · exact .err (by decide)
theorem word_nz {ws : List ByteArray} {p : Nat} : NZ (wordP T e ws p) := by
  rw [wordP]; split
  · exact take_nz
  · exact .err (by decide)
theorem kidsL_nz {one : Nat → Res Cd} (h : ∀ p, NZ (one p)) {w : ByteArray} : ∀ f acc p, NZ (kidsL T e one w f acc p)
  | 0, acc, p => .ok
  | f + 1, acc, p => by
    rw [kidsL]
    split
    · refine (h (p + 1)).bind (fun x hx => by rw [hx]) (fun a ha => ?_)
      rw [ha]
      exact kidsL_nz h f _ _
    · exact .ok
theorem kidsP_nz {one : Nat → Res Cd} (h : ∀ p, NZ (one p)) {w : ByteArray} {kind : Int} (p : Nat) : NZ (kidsP T e kind w one p) := by
  rw [kidsP]
  refine (h p).bind (fun x hx => by rw [hx]) (fun a ha => ?_)
  rw [ha]
  obtain ⟨c, q⟩ := a
  refine (kidsL_nz (T := T) (e := e) h (w := w) (T.length + 1 - q) [c] q).bind (fun x hx => by simp only [hx]) (fun b hb => ?_)
  simp only [hb]
  split <;> exact .ok
theorem atomT_nz {w : ByteArray} {f : ByteArray → ByteArray} {r : Res ByteArray} (h : NZ r) : NZ (atomT w f r) := h.bind (fun x hx => by rw [hx]; rfl) (fun a ha => by rw [ha]; exact .ok)
theorem atomP_nz {p : Nat} : NZ (atomP T e p) := by
  rw [atomP]
  refine word_nz.bind (fun x hx => by rw [hx]) (fun a ha => ?_)
  rw [ha]
  unfold atomK
  dsimp only
  repeat' split
  all_goals first | exact .ok | exact atomT_nz take_nz
theorem closeP_nz {r : Res Cd} (h : NZ r) : NZ (closeP T e r) := h.bind (fun x hx => by rw [hx]; rfl) (fun a ha => by
  rw [ha]
  exact (take_nz (T := T) (e := e) (k := 4) (p := a.2)).bind (fun x hx => by rw [closeP, hx]; rfl) (fun b hb => by rw [closeP, hb]; exact .ok))
theorem wrapNot_nz {r : Res Cd} (h : NZ r) : NZ (wrapNot r) := h.bind (fun x hx => by rw [hx]; rfl) (fun a ha => by rw [ha]; exact .ok)
theorem notN_nz : ∀ n p, NZ (notN T e n p)
  | 0, p => by
    rw [notN]
    split
    · exact .err (by decide)
    · split
      · exact .err (by decide)
      · exact atomP_nz
  | n + 1, p => by
    rw [notN]
    split
    · exact wrapNot_nz (notN_nz n _)
    · split
      · exact closeP_nz (kidsP_nz (kidsP_nz (notN_nz n)) _)
      · exact atomP_nz
theorem condP_nz {p : Nat} : NZ (condP T e p) := kidsP_nz (kidsP_nz (notN_nz 30)) p
theorem shareL_nz : ∀ f s p, NZ (shareL T e f s p)
  | 0, s, p => .ok
  | f + 1, s, p => by
    by_cases hi : isP T e [wMethod, wHeader, wCreds] p = true
    · rw [shareL_succ _ _ _ _ _ hi.symm]
      refine take_nz.bind (fun x hx => by rw [hx]; rfl) (fun a ha => ?_)
      rw [ha]
      obtain ⟨w, q⟩ := a
      rw [shareK]
      split
      · exact take_nz.bind (fun x hx => by rw [hx]; rfl) (fun b hb => by rw [hb]; exact shareL_nz f _ _)
      · split
        · exact take_nz.bind (fun x hx => by rw [hx]; rfl) (fun b hb => by rw [hb]; exact shareL_nz f _ _)
        · exact shareL_nz f _ _
    · rw [shareL, if_neg hi]; exact .ok
theorem shareP_nz {p : Nat} : NZ (shareP T e p) := by
  rw [shareP]
  refine take_nz.bind (fun x hx => by rw [hx]) (fun a ha => ?_)
  rw [ha]
  exact shareL_nz _ _ _
theorem itemK_nz {s : Pst} {w : ByteArray} {q : Nat} : NZ (itemK T e s w q) := by
  by_cases h0 : w = wCsp
  · rw [itemK_csp h0]; exact take_nz.bind (fun x hx => by rw [hx]; rfl) (fun b hb => by rw [hb]; exact .ok)
  by_cases h1 : w = wShare
  · rw [itemK_share h0 h1]; exact shareP_nz.bind (fun x hx => by rw [hx]; rfl) (fun b hb => by rw [hb]; exact .ok)
  by_cases h2 : w = wMixed
  · rw [itemK_mixed h0 h1 h2]; exact word_nz.bind (fun x hx => by rw [hx]; rfl) (fun b hb => by rw [hb]; exact .ok)
  by_cases h3 : w = wDefault
  · rw [itemK_default h0 h1 h2 h3]; exact word_nz.bind (fun x hx => by rw [hx]; rfl) (fun b hb => by rw [hb]; exact .ok)
  rw [itemK_rule h0 h1 h2 h3]
  refine word_nz.bind (fun x hx => by rw [hx]; rfl) (fun b hb => ?_)
  rw [hb]
  exact condP_nz.bind (fun x hx => by rw [ifK, hx]; rfl) (fun c hc => by rw [ifK, hc]; exact .ok)
theorem itemP_nz {s : Pst} {p : Nat} : NZ (itemP T e s p) := by
  rw [itemP]
  split
  · have h1 : NZ (onceP T e s p) := by
      rw [onceP]
      repeat' split
      all_goals first | exact .ok | exact .err (by decide)
    refine h1.bind (fun x hx => by rw [hx]) (fun a ha => ?_)
    rw [ha]
    dsimp only
    split
    · exact .err (by decide)
    · refine take_nz.bind (fun x hx => by rw [hx]) (fun b hb => ?_)
      rw [hb]
      exact itemK_nz
  · exact .err (by decide)
theorem itemsP_nz : ∀ f s p, NZ (itemsP T e f s p)
  | 0, s, p => .ok
  | f + 1, s, p => by
    rw [itemsP]
    split
    · refine itemP_nz.bind (fun x hx => by rw [hx]) (fun a ha => ?_)
      rw [ha]
      obtain ⟨s1, q⟩ := a
      refine (take_nz (T := T) (e := e) (k := 5) (p := q)).bind (fun x hx => by simp only [hx]) (fun b hb => ?_)
      simp only [hb]
      exact itemsP_nz f _ _
    · exact .ok
end
theorem polA_nz (x : ByteArray) : NZ (polA x) := by
  rw [polA, polT_eq]
  split
  · exact itemsP_nz _ _ _
  · rename_i h; exact .err h
/-- A policy and a fault, laid into two new variables. -/
def sv2 (w : World) (P F : Array Value) : World := (((w.alloc (.cells #[.slice none 0 0, .slice none 0 0, .string ⟨#[]⟩, .slice none 0 0, .bool false] 27)).alloc (.cells #[.int .i64 0, .int .i64 0] 30)).setRow w.heap.size P).setRow (w.heap.size + 1) F
theorem sv2_below (w : World) (P F : Array Value) : Below w.heap.size w (sv2 w P F) := below_setRow (below_setRow (below_alloc (below_alloc (Below.refl _ _) _) _) (Nat.le_refl _) _) (Nat.le_succ _) _
theorem sv2_pol (w : World) (P F : Array Value) : (sv2 w P F).heap[w.heap.size]? = some (.cells P 27 (0, 0)) := (setRow_other _ _ _ _ (by omega)).trans (setRow_heap _ _ _ _ _ _ (blk_alloc (blk_new _ _) _))
theorem sv2_flt (w : World) (P F : Array Value) : (sv2 w P F).heap[w.heap.size + 1]? = some (.cells F 30 (0, 0)) := setRow_heap _ _ _ _ _ _ ((setRow_other _ _ _ _ (by omega)).trans (blk_new2 _ _ _ _ _))
theorem ReadP.small {st : Pst} (h : ReadP st) : SmallP st := by
  have hn := h.a.n
  have hi := h.a.i
  exact ⟨by omega, by omega, by omega, fun s hs => by have := h.a.s s hs; omega, fun r hr => by have := (h.a.r r hr).2; omega⟩
theorem smallZ : SmallP ⟨[], [], ⟨#[]⟩, [], false, 0, 0, 0⟩ := ⟨(by decide), (by decide), (by decide), (fun _ h => by cases h), (fun _ h => by cases h)⟩
/-- A policy read and what its text reads as. -/
theorem back_cases {x : ByteArray} {st : Pst} (h : polA x = .ok st) : (∃ st', polA (polText st.csp st.shares st.mixed st.rules st.allow) = .ok st' ∧ SameF st' st.csp st.shares st.mixed st.rules st.allow ∧ (polText st.csp st.shares st.mixed st.rules st.allow).size ≤ 3000) ∨ ∃ a, polA (polText st.csp st.shares st.mixed st.rules st.allow) = .error (2, a) := by
  rcases back (read_ok h).pol st.allow with ⟨st', h1, h2⟩ | h1
  · left
    refine ⟨st', h1, h2, ?_⟩
    rw [polA, polT_eq] at h1
    rcases tokM_cases (polText st.csp st.shares st.mixed st.rules st.allow) with ⟨ts, _, _, _, hl⟩ | ⟨j, h3, _⟩ | ⟨h3, _⟩
    · exact hl
    · rw [h3] at h1; rw [if_neg (by exact (by decide : ¬ (8 : Int) = 0))] at h1; cases h1
    · rw [h3] at h1; rw [if_neg (by exact (by decide : ¬ (2 : Int) = 0))] at h1; cases h1
  · exact .inr h1
end Go.Proofs.YtngedmioeodmfaaDoor.Pu
namespace Go.Proofs.YtngedmioeodmfaaDoor.Pu
open Go.RowKit Go.Proofs.YtngedmioeodmfaaDoor.Pr Go.Proofs.YtngedmioeodmfaaDoorW.PrintWords Go.Proofs.YtngedmioeodmfaaDoorW.PrintLast Go.Proofs.YtngedmioeodmfaaDoorW.PrintMore Go.Proofs.YtngedmioeodmfaaDoor.Lx
open Go.Proofs.YtngedmioeodmfaaDoor.Ps hiding Tk
set_option linter.unusedVariables false
set_option linter.unusedSimpArgs false
set_option maxHeartbeats 16000000
set_option maxRecDepth 100000
theorem text_calls {csp : List ByteArray} {sh : List (S44)} {mixed : ByteArray} {rules : List (S51)} {allow : Bool} (hO : OkP csp sh mixed rules allow) (A0 A1 A3 : Option Addr) (n0 c0 n1 c1 n3 c3 : Nat) (w : World)
    (hC0 : Kd.string.C w A0 csp.length csp) (hn0 : n0 = csp.length) (hc0 : n0 ≤ c0) (hC1 : k44.C w A1 sh.length sh) (hn1 : n1 = sh.length) (hc1 : n1 ≤ c1) (hC3 : k51.C w A3 rules.length rules) (hn3 : n3 = rules.length) (hc3 : n3 ≤ c3) :
    Calls Tryd.prog 17 #[.agg #[.slice A0 n0 c0, .slice A1 n1 c1, .string mixed, .slice A3 n3 c3, .bool allow]] w fun e w' => e = .returned (.string (polText csp sh mixed rules allow)) ∧ Below w.heap.size w w' := by
  obtain ⟨w1, hw1⟩ : ∃ w1, w1 = w.alloc (.cells #[.slice A0 n0 c0, .slice A1 n1 c1, .string mixed, .slice A3 n3 c3, .bool allow] 27) := ⟨_, rfl⟩
  have HX : Aside0 (w1.heap[w.heap.size]? = some (.cells #[.slice A0 n0 c0, .slice A1 n1 c1, .string mixed, .slice A3 n3 c3, .bool allow] 27 (0, 0))) := ⟨by rw [hw1]; exact blk_new _ _⟩
  have HB1 : Aside0 (Below w.heap.size w w1) := ⟨by rw [hw1]; exact below_alloc (Below.refl _ _) _⟩
  have HC0 : Aside0 (Kd.string.C w1 A0 csp.length csp) := ⟨by rw [hw1]; exact Kd.C_alloc hC0 _⟩
  have HC1 : Aside0 (k44.C w1 A1 sh.length sh) := ⟨by rw [hw1]; exact Kd.C_alloc hC1 _⟩
  have HC3 : Aside0 (k51.C w1 A3 rules.length rules) := ⟨by rw [hw1]; exact Kd.C_alloc hC3 _⟩
  have HW1 := Aside0.mk hw1
  have HO := Aside0.mk hO
  have HN0 := Aside0.mk hn0
  have HN1 := Aside0.mk hn1
  have HN3 := Aside0.mk hn3
  have t0 : w1.cell? ⟨w.heap.size, 0, none⟩ = some (.slice A0 n0 c0) := blk_cell HX.out 0
  clear hw1 hn0 hn1 hn3 hC0 hC1 hC3 hO
  obtain ⟨B, hB⟩ : ∃ B, B = w1.heap.size := ⟨_, rfl⟩
  have HBQ := Aside0.mk hB
  have HGB : Aside0 (w.heap.size < B) := ⟨by rw [hB]; exact blk_lt HX.out⟩
  clear hB
  go_enter Tryd.func17, Tryd.ntmps17
  go_upto_region 1 with (fail)
  rw [← HW1.out]
  go_wp2
  clear t0
  go_loopg [3, 19] csp.length (fun gk v3 v19 wr => ∃ (i : Nat), v19 = .int .i64 i ∧ Aside0 (i ≤ csp.length) ∧ Aside0 (csp.length - i ≤ gk) ∧ Aside0 (Kd.string.R 9 wr B (fun _ => True) v3 ((csp.map cspT).take i)) ∧ Aside0 (Below B w1 wr))
  case atStart => exact ⟨0, rfl, ⟨Nat.zero_le _⟩, ⟨Nat.sub_le _ _⟩, ⟨Kd.R_nil _ _ _ _ _⟩, ⟨Below.refl _ _⟩⟩
  case round =>
    obtain ⟨i, rfl, HI, HGK, HR, HB⟩ := hrel
    by_cases hi : i < n0
    · have l1 : decide (i < n0) = true := decide_eq_true hi
      have l2 : decide ((i : Int) < (n0 : Int)) = true := decide_eq_true (by omega)
      have l3 : (i : Int) < (n0 : Int) := by omega
      have HIL : Aside0 (i < csp.length) := ⟨by rw [← HN0.out]; exact hi⟩
      have hib : (i : Int) ≤ 1000000 := by have := HO.out.cl; have := HIL.out; omega
      obtain ⟨ad, hA, q⟩ := Kd.at_string HC0.out (i : Int) (by omega) (by have := HIL.out; omega)
      obtain rfl : A0 = some ad := hA
      rw [rd_str HIL.out] at q
      obtain ⟨x, hx⟩ : ∃ x, x = csp[i]'HIL.out := ⟨_, rfl⟩
      have hxs := HO.out.cs x (by rw [hx]; exact List.getElem_mem _)
      rw [← hx] at q
      have HQ := Aside0.mk (quote_calls x hxs.1 wr)
      obtain ⟨qx, hqx⟩ : ∃ qx, qx = quoteB x := ⟨_, rfl⟩
      have HTX : Aside0 ((csp.map cspT).take (i + 1) = (csp.map cspT).take i ++ [((⟨#[99, 115, 112, 32]⟩ : ByteArray) ++ qx)]) := ⟨by rw [take_map _ _ HIL.out, ← hx, hqx]; rfl⟩
      rw [← hqx] at HQ hxs
      have hqs := hxs.2
      clear hqx hx hxs hi
      simp only [Int.toNat_natCast] at q
      have HQB : Aside0 (w1.heap.size = B) := ⟨HBQ.out.symm⟩
      replace q := (HB.out.cell (by rw [HBQ.out]; exact World.block_lt_of_cell? w1 _ q)).trans q
      go_wp2_with fail
      refine HQ.out.mono ?_
      rintro e w6 ⟨rfl, hb6⟩
      dsimp only
      have HZR : Aside0 (B ≤ wr.heap.size) := ⟨by rw [HBQ.out]; exact (HBQ.out ▸ HB.out.size)⟩
      have HB6 : Aside0 (Below B w1 w6) := ⟨HB.out.trans (hb6.mono HZR.out)⟩
      have HR6 : Aside0 (Kd.string.R 9 w6 B (fun _ => True) u3 ((csp.map cspT).take i)) := ⟨Kd.R_below HR.out hb6⟩
      have hlb : (((csp.map cspT).take i).length + 1) * 16 ≤ 140737488355328 := by rw [List.length_take, List.length_map]; have := HO.out.cl; omega
      clear hb6 HB HR HQ q
      go_wp2_with (at_builtin; refine Kd.R_append Kd.string (w0 := w1) B rfl (.tmp 23) (.tmp 27) 23 9 (.string ⟨#[]⟩) 16 rfl Tryd.underlying23 info_str2 rfl (by decide) (by decide) u3 ((csp.map cspT).take i) ((⟨#[99, 115, 112, 32]⟩ : ByteArray) ++ qx) [.string ((⟨#[99, 115, 112, 32]⟩ : ByteArray) ++ qx)] (fun _ => True) (fun _ => False) rfl rfl rfl (fun _ hk => hk.elim) (fun _ _ => trivial) HR6.out HB6.out (by have := HB6.out.size; have := HBQ.out; omega) hlb ?_)
      intro v7 w7 hO7 hB7 hg7 hat7
      rw [← HTX.out] at hO7
      have HO7 := Aside0.mk hO7
      have HB7 := Aside0.mk hB7
      clear hO7 hB7 hg7 hat7 hlb
      go_wp2
      go_roundg (csp.length - (i + 1))
      case measure => have := HGK.out; have := HIL.out; omega
      case rel => exact ⟨i + 1, by first | rfl | go_num, ⟨HIL.out⟩, ⟨Nat.le_refl _⟩, HO7, HB7⟩
    · have l1 : decide (i < n0) = false := decide_eq_false hi
      have l2 : decide ((i : Int) < (n0 : Int)) = false := decide_eq_false (by omega)
      have l3 : ¬ (i : Int) < (n0 : Int) := by omega
      have HR1 : Aside0 (Kd.string.R 9 wr B (fun _ => True) u3 (csp.map cspT)) := ⟨by
        have h := HR.out
        rwa [List.take_of_length_le (by rw [List.length_map]; have := HN0.out; omega)] at h⟩
      have HB' : Aside0 (Below w1.heap.size w1 wr) := ⟨HBQ.out ▸ HB.out⟩
      have t1 : wr.cell? ⟨w.heap.size, 1, none⟩ = some (.slice A1 n1 c1) := blk_cell (blk_below HX.out HB'.out) 1
      clear hi HR HI HGK
      go_wp2
      clear t1 l1 l2 l3
      go_loopg [3, 33] sh.length (fun gk v3 v33 wq => ∃ (j : Nat), v33 = .int .i64 j ∧ Aside0 (j ≤ sh.length) ∧ Aside0 (sh.length - j ≤ gk) ∧ Aside0 (Kd.string.R 9 wq B (fun _ => True) v3 (csp.map cspT ++ (sh.map shareT).take j)) ∧ Aside0 (Below B w1 wq))
      case atStart => exact ⟨0, rfl, ⟨Nat.zero_le _⟩, ⟨Nat.sub_le _ _⟩, ⟨by rw [List.take_zero, List.append_nil]; exact HR1.out⟩, HB⟩
      case round =>
        clear HR1 HB HB'
        obtain ⟨j, rfl, HJ, HGK, HR, HB⟩ := hrel
        obtain ⟨wq, hwq⟩ : ∃ x, x = wr := ⟨_, rfl⟩
        subst hwq
        by_cases hj : j < n1
        · have l1 : decide (j < n1) = true := decide_eq_true hj
          have l2 : decide ((j : Int) < (n1 : Int)) = true := decide_eq_true (by omega)
          have l3 : (j : Int) < (n1 : Int) := by omega
          have HJL : Aside0 (j < sh.length) := ⟨by rw [← HN1.out]; exact hj⟩
          have hjb : (j : Int) ≤ 1000000 := by have := HO.out.sl; have := HJL.out; omega
          obtain ⟨ad, A5, c5, A6, c6, hA, q0, q1, q2, q3, hl5, hC5, hl6, hC6⟩ := at_T44 HC1.out (j : Int) (by omega) (by have := HJL.out; omega)
          obtain rfl : A1 = some ad := hA
          have hrd : rd_T44 sh (j : Int) = sh[j]'HJL.out := by have := HJL.out; simp [rd_T44, this]
          obtain ⟨s, hs⟩ : ∃ s, s = sh[j]'HJL.out := ⟨_, rfl⟩
          have HMEM : Aside0 (s ∈ sh) := ⟨by rw [hs]; exact List.getElem_mem _⟩
          rw [hrd, ← hs] at q0 q1 q2 q3 hl5 hC5 hl6 hC6
          have HSJ := Aside0.mk hs
          simp only [Int.toNat_natCast] at q0 q1 q2 q3
          replace q0 := (HB.out.cell (by rw [HBQ.out]; exact World.block_lt_of_cell? w1 _ q0)).trans q0
          replace q1 := (HB.out.cell (by rw [HBQ.out]; exact World.block_lt_of_cell? w1 _ q1)).trans q1
          replace q2 := (HB.out.cell (by rw [HBQ.out]; exact World.block_lt_of_cell? w1 _ q2)).trans q2
          replace q3 := (HB.out.cell (by rw [HBQ.out]; exact World.block_lt_of_cell? w1 _ q3)).trans q3
          have hbl := World.block_lt_of_cell? wq _ q0
          have HC5 := Aside0.mk hC5
          have HC6 := Aside0.mk hC6
          have hss := HO.out.ss s HMEM.out
          obtain ⟨o, ho⟩ : ∃ o, o = s.f0 := ⟨_, rfl⟩
          obtain ⟨m1, hm1⟩ : ∃ m1, m1 = s.f1.length := ⟨_, rfl⟩
          obtain ⟨m2, hm2⟩ : ∃ m2, m2 = s.f2.length := ⟨_, rfl⟩
          obtain ⟨cr, hcr⟩ : ∃ cr, cr = s.f3 := ⟨_, rfl⟩
          rw [← ho] at q0 hss
          rw [← hm1] at q1 hl5
          rw [← hm2] at q2 hl6
          rw [← hcr] at q3
          have Hm1 := Aside0.mk hm1
          have Hm2 := Aside0.mk hm2
          obtain ⟨wb, hwb⟩ : ∃ wb, wb = (wq.alloc (.cells #[.string ⟨#[]⟩, .slice none 0 0, .slice none 0 0, .bool false] 44)).setRow wq.heap.size #[.string o, .slice A5 m1 c5, .slice A6 m2 c6, .bool cr] := ⟨_, rfl⟩
          have HBB : Aside0 (Below wq.heap.size wq wb) := ⟨by rw [hwb]; exact below_setRow (below_alloc (Below.refl _ _) _) (Nat.le_refl _) _⟩
          have HXX : Aside0 (wb.heap[wq.heap.size]? = some (.cells #[.string o, .slice A5 m1 c5, .slice A6 m2 c6, .bool cr] 44 (0, 0))) := ⟨by rw [hwb]; exact setRow_heap _ _ _ _ _ _ (blk_new wq (.cells #[.string ⟨#[]⟩, .slice none 0 0, .slice none 0 0, .bool false] 44))⟩
          have HWB := Aside0.mk hwb
          have HQ := Aside0.mk (quote_calls o hss.1 wb)
          obtain ⟨qx, hqx⟩ : ∃ qx, qx = quoteB o := ⟨_, rfl⟩
          rw [← hqx] at HQ hss
          have hqs := hss.2
          rw [ho] at hqx
          have HQX := Aside0.mk hqx
          have HCR := Aside0.mk hcr
          clear hqx hcr ho
          have HZR : Aside0 (B ≤ wq.heap.size) := ⟨by rw [HBQ.out]; exact HB.out.size⟩
          clear hwb hrd hs hm1 hm2 hj hss
          go_upto_region 10 with (refine wpList_store_row rfl 44 _ _ rfl wq.heap.size #[.string o, .slice A5 m1 c5, .slice A6 m2 c6, .bool cr] rfl rfl 44 #[.string ⟨#[]⟩, .slice none 0 0, .slice none 0 0, .bool false] (blk_new _ _) size_sh rfl (by simp [Value.oneCell']) ?_)
          rw [← HWB.out]
          have u0c : wb.cell? ⟨wq.heap.size, 0, none⟩ = some (.string o) := blk_cell HXX.out 0
          clear HWB q0 q1 q2 q3 hbl
          go_wp2_with fail
          refine HQ.out.mono ?_
          rintro e w6 ⟨rfl, hb6⟩
          dsimp only
          have HX6 : Aside0 (w6.heap[wq.heap.size]? = some (.cells #[.string o, .slice A5 m1 c5, .slice A6 m2 c6, .bool cr] 44 (0, 0))) := ⟨blk_below HXX.out hb6⟩
          have HB6 : Aside0 (Below B w1 w6) := ⟨HB.out.trans ((HBB.out.trans (hb6.mono HBB.out.size)).mono HZR.out)⟩
          have HR6 : Aside0 (Kd.string.R 9 w6 B (fun _ => True) u3 (csp.map cspT ++ (sh.map shareT).take j)) := ⟨Kd.R_below (Kd.R_below HR.out HBB.out) hb6⟩
          clear hb6 HB HR HBB HXX HQ u0c l1 l2 l3
          have u1c : w6.cell? ⟨wq.heap.size, 1, none⟩ = some (.slice A5 m1 c5) := blk_cell HX6.out 1
          go_wp2
          clear u1c
          go_loopg [8, 44] s.f1.length (fun gk v8 v44 wz => ∃ (i : Nat) (acc : ByteArray), v44 = .int .i64 i ∧ v8 = .string acc ∧ wz = w6 ∧ Aside0 (i ≤ s.f1.length) ∧ Aside0 (s.f1.length - i ≤ gk) ∧ Aside0 (acc = addAll bMeth (bShare ++ qx) (s.f1.take i)) ∧ Aside0 (acc.size ≤ 20000000 + i * 2000000))
          case atStart => exact ⟨0, _, rfl, rfl, rfl, ⟨Nat.zero_le _⟩, ⟨Nat.sub_le _ _⟩, ⟨rfl⟩, ⟨by rw [ByteArray.size_append, show (⟨#[115, 104, 97, 114, 101, 32]⟩ : ByteArray).size = 6 from rfl]; omega⟩⟩
          case round =>
            obtain ⟨i, acc, rfl, rfl, hwz, HI, HGI, HACC, HAS⟩ := hrel
            obtain rfl := hwz.symm
            by_cases hi : i < m1
            · have g1 : decide (i < m1) = true := decide_eq_true hi
              have g2 : decide ((i : Int) < (m1 : Int)) = true := decide_eq_true (by omega)
              have g3 : (i : Int) < (m1 : Int) := by omega
              have HIL : Aside0 (i < s.f1.length) := ⟨by rw [← Hm1.out]; exact hi⟩
              have hsm := HO.out.sm s HMEM.out
              have hib : (i : Int) ≤ 1000000 := by have := HIL.out; omega
              obtain ⟨ad3, hA, q⟩ := Kd.at_string HC5.out (i : Int) (by omega) (by have := HIL.out; omega)
              obtain rfl : A5 = some ad3 := hA
              rw [rd_str HIL.out] at q
              obtain ⟨x, hx⟩ : ∃ x, x = s.f1[i]'HIL.out := ⟨_, rfl⟩
              have hxs : x.size ≤ 1000000 := hsm.2 x (by rw [hx]; exact List.getElem_mem _)
              rw [← hx] at q
              have HNX : Aside0 (acc ++ ((⟨#[32, 109, 101, 116, 104, 111, 100, 32]⟩ : ByteArray) ++ x) = addAll bMeth (bShare ++ qx) (s.f1.take (i + 1))) := ⟨by rw [addAll_next _ _ _ HIL.out, ← HACC.out, ← hx]; rfl⟩
              have has : acc.size ≤ 20000000 + 2000000000000 := by have := HAS.out; omega
              have HAX : Aside0 ((acc ++ ((⟨#[32, 109, 101, 116, 104, 111, 100, 32]⟩ : ByteArray) ++ x)).size ≤ 20000000 + (i + 1) * 2000000) := ⟨by
                rw [ByteArray.size_append, ByteArray.size_append]
                have := HAS.out
                have : (⟨#[32, 109, 101, 116, 104, 111, 100, 32]⟩ : ByteArray).size ≤ 100 := by decide
                omega⟩
              simp only [Int.toNat_natCast] at q
              replace q := (HB6.out.cell (by rw [HBQ.out]; exact World.block_lt_of_cell? w1 _ q)).trans q
              clear hsm hx hi
              go_wp2
              go_roundg (s.f1.length - (i + 1))
              case measure => have := HGI.out; have := HIL.out; omega
              case rel => exact ⟨i + 1, _, by first | rfl | go_num, rfl, rfl, ⟨HIL.out⟩, ⟨Nat.le_refl _⟩, HNX, HAX⟩
            · have g1 : decide (i < m1) = false := decide_eq_false hi
              have g2 : decide ((i : Int) < (m1 : Int)) = false := decide_eq_false (by omega)
              have g3 : ¬ (i : Int) < (m1 : Int) := by omega
              have HACC3 : Aside0 (acc = addAll bMeth (bShare ++ qx) s.f1) := ⟨by
                have h := HACC.out
                rwa [List.take_of_length_le (by have := Hm1.out; omega)] at h⟩
              have HAS3 : Aside0 (acc.size ≤ 20000000 + 2000000000000) := ⟨by have := HAS.out; have := HI.out; have := (HO.out.sm s HMEM.out).1; omega⟩
              clear hi HACC HAS HI HGI
              obtain ⟨acc3, hacc3⟩ : ∃ x, x = acc := ⟨_, rfl⟩
              rw [← hacc3] at HACC3 HAS3 ⊢
              clear hacc3
              have u2c : w6.cell? ⟨wq.heap.size, 2, none⟩ = some (.slice A6 m2 c6) := blk_cell HX6.out 2
              go_wp2
              clear u2c g1 g2 g3
              go_loopg [8, 56] s.f2.length (fun gk v8 v44 wz => ∃ (i : Nat) (acc : ByteArray), v44 = .int .i64 i ∧ v8 = .string acc ∧ wz = w6 ∧ Aside0 (i ≤ s.f2.length) ∧ Aside0 (s.f2.length - i ≤ gk) ∧ Aside0 (acc = addAll bHead (addAll bMeth (bShare ++ qx) s.f1) (s.f2.take i)) ∧ Aside0 (acc.size ≤ 4000000000000 + i * 2000000))
              case atStart => exact ⟨0, _, rfl, rfl, rfl, ⟨Nat.zero_le _⟩, ⟨Nat.sub_le _ _⟩, HACC3, ⟨by have := HAS3.out; omega⟩⟩
              case round =>
                obtain ⟨i, acc, rfl, rfl, hwz, HI, HGI, HACC, HAS⟩ := hrel
                obtain rfl := hwz.symm
                by_cases hi : i < m2
                · have g1 : decide (i < m2) = true := decide_eq_true hi
                  have g2 : decide ((i : Int) < (m2 : Int)) = true := decide_eq_true (by omega)
                  have g3 : (i : Int) < (m2 : Int) := by omega
                  have HIL : Aside0 (i < s.f2.length) := ⟨by rw [← Hm2.out]; exact hi⟩
                  have hsm := HO.out.sn s HMEM.out
                  have hib : (i : Int) ≤ 1000000 := by have := HIL.out; omega
                  obtain ⟨ad4, hA, q⟩ := Kd.at_string HC6.out (i : Int) (by omega) (by have := HIL.out; omega)
                  obtain rfl : A6 = some ad4 := hA
                  rw [rd_str HIL.out] at q
                  obtain ⟨x, hx⟩ : ∃ x, x = s.f2[i]'HIL.out := ⟨_, rfl⟩
                  have hxs : x.size ≤ 1000000 := hsm.2 x (by rw [hx]; exact List.getElem_mem _)
                  rw [← hx] at q
                  have HNX : Aside0 (acc ++ ((⟨#[32, 104, 101, 97, 100, 101, 114, 32]⟩ : ByteArray) ++ x) = addAll bHead (addAll bMeth (bShare ++ qx) s.f1) (s.f2.take (i + 1))) := ⟨by rw [addAll_next _ _ _ HIL.out, ← HACC.out, ← hx]; rfl⟩
                  have has : acc.size ≤ 4000000000000 + 2000000000000 := by have := HAS.out; omega
                  have HAX : Aside0 ((acc ++ ((⟨#[32, 104, 101, 97, 100, 101, 114, 32]⟩ : ByteArray) ++ x)).size ≤ 4000000000000 + (i + 1) * 2000000) := ⟨by
                    rw [ByteArray.size_append, ByteArray.size_append]
                    have := HAS.out
                    have : (⟨#[32, 104, 101, 97, 100, 101, 114, 32]⟩ : ByteArray).size ≤ 100 := by decide
                    omega⟩
                  simp only [Int.toNat_natCast] at q
                  replace q := (HB6.out.cell (by rw [HBQ.out]; exact World.block_lt_of_cell? w1 _ q)).trans q
                  clear hsm hx hi
                  go_wp2
                  go_roundg (s.f2.length - (i + 1))
                  case measure => have := HGI.out; have := HIL.out; omega
                  case rel => exact ⟨i + 1, _, by first | rfl | go_num, rfl, rfl, ⟨HIL.out⟩, ⟨Nat.le_refl _⟩, HNX, HAX⟩
                · have g1 : decide (i < m2) = false := decide_eq_false hi
                  have g2 : decide ((i : Int) < (m2 : Int)) = false := decide_eq_false (by omega)
                  have g3 : ¬ (i : Int) < (m2 : Int) := by omega
                  have HACC4 : Aside0 (acc = addAll bHead (addAll bMeth (bShare ++ qx) s.f1) s.f2) := ⟨by
                    have h := HACC.out
                    rwa [List.take_of_length_le (by have := Hm2.out; omega)] at h⟩
                  have HAS4 : Aside0 (acc.size ≤ 4000000000000 + 2000000000000) := ⟨by have := HAS.out; have := HI.out; have := (HO.out.sn s HMEM.out).1; omega⟩
                  clear hi HACC HAS HI HGI
                  have u3c : w6.cell? ⟨wq.heap.size, 3, none⟩ = some (.bool cr) := blk_cell HX6.out 3
                  have hlb : ((csp.map cspT ++ (sh.map shareT).take j).length + 1) * 16 ≤ 140737488355328 := by rw [List.length_append, List.length_take, List.length_map, List.length_map]; have := HO.out.cl; have := HO.out.sl; omega
                  have hac := HAS4.out
                  cases cr with
                  | true =>
                    have HY : Aside0 (acc ++ (⟨#[32, 99, 114, 101, 100, 115]⟩ : ByteArray) = shareT s) := ⟨by
                      unfold shareT
                      rw [if_pos HCR.out.symm, HACC4.out, HQX.out]; rfl⟩
                    go_wp2_with (at_builtin; refine Kd.R_append Kd.string (w0 := w1) B rfl (.tmp 69) (.tmp 71) 23 9 (.string ⟨#[]⟩) 16 rfl Tryd.underlying23 info_str2 rfl (by decide) (by decide) u3 (csp.map cspT ++ (sh.map shareT).take j) (acc ++ (⟨#[32, 99, 114, 101, 100, 115]⟩ : ByteArray)) [.string (acc ++ (⟨#[32, 99, 114, 101, 100, 115]⟩ : ByteArray))] (fun _ => True) (fun _ => False) rfl rfl rfl (fun _ hk => hk.elim) (fun _ _ => trivial) HR6.out HB6.out (by have := HB6.out.size; have := HBQ.out; omega) hlb ?_)
                    intro v7 w7 hO7 hB7 hg7 hat7
                    rw [show (sh.map shareT).take j ++ [acc ++ (⟨#[32, 99, 114, 101, 100, 115]⟩ : ByteArray)] = (sh.map shareT).take (j + 1) from by rw [take_map _ _ HJL.out, ← HSJ.out, HY.out]] at hO7
                    have HO7 := Aside0.mk hO7
                    have HB7 := Aside0.mk hB7
                    clear hO7 hB7 hg7 hat7 hlb
                    go_wp2
                    go_roundg (sh.length - (j + 1))
                    case measure => have := HGK.out; have := HJL.out; omega
                    case rel => exact ⟨j + 1, by first | rfl | go_num, ⟨HJL.out⟩, ⟨Nat.le_refl _⟩, HO7, HB7⟩
                  | false =>
                    have HY : Aside0 (acc = shareT s) := ⟨by
                      unfold shareT
                      rw [if_neg (by rw [← HCR.out]; decide), HACC4.out, HQX.out]⟩
                    go_wp2_with (at_builtin; refine Kd.R_append Kd.string (w0 := w1) B rfl (.tmp 69) (.tmp 71) 23 9 (.string ⟨#[]⟩) 16 rfl Tryd.underlying23 info_str2 rfl (by decide) (by decide) u3 (csp.map cspT ++ (sh.map shareT).take j) (acc) [.string (acc)] (fun _ => True) (fun _ => False) rfl rfl rfl (fun _ hk => hk.elim) (fun _ _ => trivial) HR6.out HB6.out (by have := HB6.out.size; have := HBQ.out; omega) hlb ?_)
                    intro v7 w7 hO7 hB7 hg7 hat7
                    rw [show (sh.map shareT).take j ++ [acc] = (sh.map shareT).take (j + 1) from by rw [take_map _ _ HJL.out, ← HSJ.out, HY.out]] at hO7
                    have HO7 := Aside0.mk hO7
                    have HB7 := Aside0.mk hB7
                    clear hO7 hB7 hg7 hat7 hlb
                    go_wp2
                    go_roundg (sh.length - (j + 1))
                    case measure => have := HGK.out; have := HJL.out; omega
                    case rel => exact ⟨j + 1, by first | rfl | go_num, ⟨HJL.out⟩, ⟨Nat.le_refl _⟩, HO7, HB7⟩
        · have l1 : decide (j < n1) = false := decide_eq_false hj
          have l2 : decide ((j : Int) < (n1 : Int)) = false := decide_eq_false (by omega)
          have l3 : ¬ (j : Int) < (n1 : Int) := by omega
          obtain ⟨wr, hwr⟩ : ∃ x, x = wq := ⟨_, rfl⟩
          subst hwr
          have HR1 : Aside0 (Kd.string.R 9 wr B (fun _ => True) u3 (csp.map cspT ++ sh.map shareT)) := ⟨by
            have h := HR.out
            rwa [List.take_of_length_le (by rw [List.length_map]; have := HN1.out; omega)] at h⟩
          have HB' : Aside0 (Below w1.heap.size w1 wr) := ⟨HBQ.out ▸ HB.out⟩
          have t2 : wr.cell? ⟨w.heap.size, 2, none⟩ = some (.string mixed) := blk_cell (blk_below HX.out HB'.out) 2
          have hmx := HO.out.mx
          have hlb : ((csp.map cspT ++ sh.map shareT).length + 1) * 16 ≤ 140737488355328 := by rw [List.length_append, List.length_map, List.length_map]; have := HO.out.cl; have := HO.out.sl; omega
          clear hj HR HJ HGK HB'
          go_wp2_with (at_builtin; refine Kd.R_append Kd.string (w0 := w1) B rfl (.tmp 74) (.tmp 78) 23 9 (.string ⟨#[]⟩) 16 rfl Tryd.underlying23 info_str2 rfl (by decide) (by decide) u3 (csp.map cspT ++ sh.map shareT) (((⟨#[109, 105, 120, 101, 100, 32]⟩ : ByteArray) ++ mixed)) [.string (((⟨#[109, 105, 120, 101, 100, 32]⟩ : ByteArray) ++ mixed))] (fun _ => True) (fun _ => False) rfl rfl rfl (fun _ hk => hk.elim) (fun _ _ => trivial) HR1.out HB.out (by have := HB.out.size; have := HBQ.out; omega) hlb ?_)
          intro v7 w7 hO7 hB7 hg7 hat7
          obtain ⟨L, hL⟩ : ∃ L, L = csp.map cspT ++ sh.map shareT ++ [bMix ++ mixed] := ⟨_, rfl⟩
          have HO7 : Aside0 (Kd.string.R 9 w7 B (fun _ => True) v7 L) := ⟨by rw [hL, List.append_assoc]; exact hO7⟩
          have HB7 := Aside0.mk hB7
          have HLL : Aside0 (L.length ≤ 200001) := ⟨by rw [hL, List.length_append, List.length_append, List.length_map, List.length_map]; have := HO.out.cl; have := HO.out.sl; simp only [List.length_cons, List.length_nil]; omega⟩
          have HLE := Aside0.mk hL
          have HBW : Aside0 (Below w1.heap.size w1 w7) := ⟨HBQ.out ▸ HB7.out⟩
          have t3 : w7.cell? ⟨w.heap.size, 3, none⟩ = some (.slice A3 n3 c3) := blk_cell (blk_below HX.out HBW.out) 3
          clear hO7 hB7 hg7 hat7 hlb hL HR1 HB HBW t2
          go_wp2
          clear t3 l1 l2 l3
          go_loopg [3, 83] rules.length (fun gk v3 v83 wq => ∃ (j : Nat), v83 = .int .i64 j ∧ Aside0 (j ≤ rules.length) ∧ Aside0 (rules.length - j ≤ gk) ∧ Aside0 (Kd.string.R 9 wq B (fun _ => True) v3 (L ++ (rules.map ruleT).take j)) ∧ Aside0 (Below B w1 wq))
          case atStart => exact ⟨0, rfl, ⟨Nat.zero_le _⟩, ⟨Nat.sub_le _ _⟩, ⟨by rw [List.take_zero, List.append_nil]; exact HO7.out⟩, HB7⟩
          case round =>
            clear HO7 HB7
            obtain ⟨j, rfl, HJ, HGK, HR, HB⟩ := hrel
            obtain ⟨wq, hwq⟩ : ∃ x, x = wr := ⟨_, rfl⟩
            subst hwq
            by_cases hj : j < n3
            · have l1 : decide (j < n3) = true := decide_eq_true hj
              have l2 : decide ((j : Int) < (n3 : Int)) = true := decide_eq_true (by omega)
              have l3 : (j : Int) < (n3 : Int) := by omega
              have HJL : Aside0 (j < rules.length) := ⟨by rw [← HN3.out]; exact hj⟩
              have hjb : (j : Int) ≤ 1000000 := by have := HO.out.rl; have := HJL.out; omega
              obtain ⟨ad, A5, c5, hA, q0, q1, q2, q3, q4, hl5, hC5⟩ := at_T51 HC3.out (j : Int) (by omega) (by have := HJL.out; omega)
              obtain rfl : A3 = some ad := hA
              have hrd : rd_T51 rules (j : Int) = rules[j]'HJL.out := by have := HJL.out; simp [rd_T51, this]
              obtain ⟨s, hs⟩ : ∃ s, s = rules[j]'HJL.out := ⟨_, rfl⟩
              have HOK : Aside0 (OkT s.f1) := ⟨by rw [hs]; exact HO.out.rr _ (List.getElem_mem _)⟩
              rw [hrd, ← hs] at q0 q1 q2 q3 q4 hl5 hC5
              have HSJ := Aside0.mk hs
              simp only [Int.toNat_natCast] at q0 q1 q2 q3 q4
              replace q0 := (HB.out.cell (by rw [HBQ.out]; exact World.block_lt_of_cell? w1 _ q0)).trans q0
              replace q1 := (HB.out.cell (by rw [HBQ.out]; exact World.block_lt_of_cell? w1 _ q1)).trans q1
              replace q2 := (HB.out.cell (by rw [HBQ.out]; exact World.block_lt_of_cell? w1 _ q2)).trans q2
              replace q3 := (HB.out.cell (by rw [HBQ.out]; exact World.block_lt_of_cell? w1 _ q3)).trans q3
              replace q4 := (HB.out.cell (by rw [HBQ.out]; exact World.block_lt_of_cell? w1 _ q4)).trans q4
              have hbl := World.block_lt_of_cell? wq _ q0
              have HC5 := Aside0.mk hC5
              have HL5 := Aside0.mk hl5
              obtain ⟨y, hy⟩ : ∃ y, y = s.f0 := ⟨_, rfl⟩
              obtain ⟨k, hk⟩ : ∃ k, k = s.f1.f0 := ⟨_, rfl⟩
              obtain ⟨a0, ha0⟩ : ∃ a, a = s.f1.f1.f0 := ⟨_, rfl⟩
              obtain ⟨a1, ha1⟩ : ∃ a, a = s.f1.f1.f1 := ⟨_, rfl⟩
              obtain ⟨m, hm⟩ : ∃ m, m = s.f1.f2.length := ⟨_, rfl⟩
              have HV : Aside0 (cdV s.f1 A5 c5 = .agg #[.int .i64 k, .string a0, .string a1, .slice A5 m c5]) := ⟨by rw [hk, ha0, ha1, hm]; rfl⟩
              rw [← hy] at q0
              rw [← hk] at q1
              rw [← ha0] at q2
              rw [← ha1] at q3
              rw [← hm] at q4
              obtain ⟨wb, hwb⟩ : ∃ wb, wb = (wq.alloc (.cells #[.bool false, .int .i64 0, .string ⟨#[]⟩, .string ⟨#[]⟩, .slice none 0 0] 51)).setRow wq.heap.size #[.bool y, .int .i64 k, .string a0, .string a1, .slice A5 m c5] := ⟨_, rfl⟩
              have HZR : Aside0 (B ≤ wq.heap.size) := ⟨by rw [HBQ.out]; exact HB.out.size⟩
              have HBB : Aside0 (Below wq.heap.size wq wb) := ⟨by rw [hwb]; exact below_setRow (below_alloc (Below.refl _ _) _) (Nat.le_refl _) _⟩
              have HXX : Aside0 (wb.heap[wq.heap.size]? = some (.cells #[.bool y, .int .i64 k, .string a0, .string a1, .slice A5 m c5] 51 (0, 0))) := ⟨by rw [hwb]; exact setRow_heap _ _ _ _ _ _ (blk_new wq (.cells #[.bool false, .int .i64 0, .string ⟨#[]⟩, .string ⟨#[]⟩, .slice none 0 0] 51))⟩
              have HBW : Aside0 (Below B w1 wb.drew) := ⟨below_drew (HB.out.trans (HBB.out.mono HZR.out))⟩
              have HRB : Aside0 (Kd.string.R 9 wb.drew B (fun _ => True) u3 (L ++ (rules.map ruleT).take j)) := ⟨Kd.R_drew (Kd.R_below HR.out HBB.out)⟩
              have HWB := Aside0.mk hwb
              have HSY := Aside0.mk (says_calls y wb.drew)
              obtain ⟨sy, hsy⟩ : ∃ sy, sy = sayB y := ⟨_, rfl⟩
              have hss : sy.size ≤ 10 := by rw [hsy]; cases y <;> decide
              rw [← hsy] at HSY
              obtain ⟨ct, hct⟩ : ∃ ct, ct = condT s.f1 := ⟨_, rfl⟩
              have hcs : ct.size ≤ 1000000000 := by rw [hct]; exact HOK.out.size
              have HRT : Aside0 (sy ++ (⟨#[32, 105, 102, 32]⟩ : ByteArray) ++ ct = ruleT s) := ⟨by rw [hsy, hct, hy]; rfl⟩
              have HCT := Aside0.mk hct
              clear hwb hrd hs hm hk ha0 ha1 hy hj hsy hct HR HB HBB HJ
              go_upto_region 30 with (refine wpList_store_row rfl 51 _ _ rfl wq.heap.size #[.bool y, .int .i64 k, .string a0, .string a1, .slice A5 m c5] rfl rfl 51 #[.bool false, .int .i64 0, .string ⟨#[]⟩, .string ⟨#[]⟩, .slice none 0 0] (blk_new _ _) size_rule rfl (by simp [Value.oneCell']) ?_)
              rw [← HWB.out]
              have d0 : wb.drew.cell? ⟨wq.heap.size, 0, none⟩ = some (.bool y) := blk_cell (show wb.drew.heap[wq.heap.size]? = _ from HXX.out) 0
              have d1 : wb.drew.cell? ⟨wq.heap.size, 1, none⟩ = some (.int .i64 k) := blk_cell (show wb.drew.heap[wq.heap.size]? = _ from HXX.out) 1
              have d2 : wb.drew.cell? ⟨wq.heap.size, 2, none⟩ = some (.string a0) := blk_cell (show wb.drew.heap[wq.heap.size]? = _ from HXX.out) 2
              have d3 : wb.drew.cell? ⟨wq.heap.size, 3, none⟩ = some (.string a1) := blk_cell (show wb.drew.heap[wq.heap.size]? = _ from HXX.out) 3
              have d4 : wb.drew.cell? ⟨wq.heap.size, 4, none⟩ = some (.slice A5 m c5) := blk_cell (show wb.drew.heap[wq.heap.size]? = _ from HXX.out) 4
              clear HWB q0 q1 q2 q3 q4 hbl l1 l2 l3
              have hlb : ((L ++ (rules.map ruleT).take j).length + 1) * 16 ≤ 140737488355328 := by rw [List.length_append, List.length_take, List.length_map]; have := HLL.out; have := HO.out.rl; omega
              refine start_ (n := 13) (S := fun w' => w'.cell? ⟨wq.heap.size, 0, none⟩ = some (.bool y) ∧ w'.cell? ⟨wq.heap.size, 1, none⟩ = some (.int .i64 k) ∧ w'.cell? ⟨wq.heap.size, 2, none⟩ = some (.string a0) ∧ w'.cell? ⟨wq.heap.size, 3, none⟩ = some (.string a1) ∧ w'.cell? ⟨wq.heap.size, 4, none⟩ = some (.slice A5 m c5)) (ds := [11]) #[false, false, false, false, false, false, false, false, false, false, false, false, false] (by kernel_rfl) rfl rfl ⟨d0, d1, d2, d3, d4⟩ (fun hHeld => ?_)
              refine pure_ (i := 0) (N := some 87) (v := ?_) (a' := ?_) #[true, false, false, false, false, false, false, false, false, false, false, false, false] rfl rfl (by kernel_rfl) (fun _ _ _ h => h) (Or.inl ⟨by rfl, ?_⟩) ?_ ?_
              rotate_left
              · intro w'
                go_simp
                with_reducible rfl
              rotate_left
              · simp only [Act.put, List.setIfInBounds_toArray, List.set_cons_zero, List.set_cons_succ, i64_w, i32_w]
                rfl
              refine pure_ (i := 1) (N := some 88) (v := ?_) (a' := ?_) #[true, true, false, false, false, false, false, false, false, false, false, false, false] rfl rfl (by kernel_rfl) (fun _ _ _ h => h) (Or.inl ⟨by rfl, ?_⟩) ?_ ?_
              rotate_left
              · intro w'
                go_simp
                with_reducible rfl
              rotate_left
              · simp only [Act.put, List.setIfInBounds_toArray, List.set_cons_zero, List.set_cons_succ, i64_w, i32_w]
                rfl
              refine pure_ (i := 2) (N := some 89) (v := ?_) (a' := ?_) #[true, true, true, false, false, false, false, false, false, false, false, false, false] rfl rfl (by kernel_rfl) (fun _ _ _ h => h) (Or.inl ⟨by rfl, ?_⟩) ?_ ?_
              rotate_left
              · intro w'
                go_simp
                with_reducible rfl
              rotate_left
              · simp only [Act.put, List.setIfInBounds_toArray, List.set_cons_zero, List.set_cons_succ, i64_w, i32_w]
                rfl
              refine pure_ (i := 6) (N := some 93) (v := ?_) (a' := ?_) #[true, true, true, false, false, false, true, false, false, false, false, false, false] rfl rfl (by kernel_rfl) (fun _ _ _ h => h) (Or.inl ⟨by rfl, ?_⟩) ?_ ?_
              rotate_left
              · intro w'
                go_simp
                with_reducible rfl
              rotate_left
              · simp only [Act.put, List.setIfInBounds_toArray, List.set_cons_zero, List.set_cons_succ, i64_w, i32_w]
                rfl
              refine take_ (i := 3) (N := some 90) (v := ?_) (a' := ?_) #[true, true, true, true, false, false, true, false, false, false, false, false, false] rfl rfl (by kernel_rfl) (fun _ _ _ h => h) (Or.inl ⟨by rfl, ?_⟩) hHeld ?_ ?_
              rotate_left
              · rintro w' ⟨s0, s1, s2, s3, s4⟩
                go_simp
                with_reducible rfl
              rotate_left
              · simp only [Act.put, List.setIfInBounds_toArray, List.set_cons_zero, List.set_cons_succ, i64_w, i32_w]
                rfl
              refine take_ (i := 7) (N := some 94) (v := ?_) (a' := ?_) #[true, true, true, true, false, false, true, true, false, false, false, false, false] rfl rfl (by kernel_rfl) (fun _ _ _ h => h) (Or.inl ⟨by rfl, ?_⟩) hHeld ?_ ?_
              rotate_left
              · rintro w' ⟨s0, s1, s2, s3, s4⟩
                go_simp
                with_reducible rfl
              rotate_left
              · simp only [Act.put, List.setIfInBounds_toArray, List.set_cons_zero, List.set_cons_succ, i64_w, i32_w]
                rfl
              refine one_ (i := 4) (N := some 91) #[true, true, true, true, true, false, true, true, false, false, false, false, false] rfl rfl (by kernel_rfl) (by decide) (fun K hK => ?_)
              refine goesV_ Tryd.func39 (by kernel_rfl) rfl #[.bool y] (by rfl) rfl rfl (by rfl) (by simp only [List.map_toArray, List.map_cons, List.map_nil]; rfl) ?_
              refine HSY.out.mono ?_
              rintro e w6 ⟨rfl, hb6⟩
              refine ⟨_, rfl, ?_⟩
              have HX6 : Aside0 (w6.heap[wq.heap.size]? = some (.cells #[.bool y, .int .i64 k, .string a0, .string a1, .slice A5 m c5] 51 (0, 0))) := ⟨blk_below (show wb.drew.heap[wq.heap.size]? = _ from HXX.out) hb6⟩
              have HB6 : Aside0 (Below B w1 w6) := ⟨HBW.out.trans (hb6.mono (by have := HBW.out.size; have := HBQ.out; omega))⟩
              have HR6 : Aside0 (Kd.string.R 9 w6 B (fun _ => True) u3 (L ++ (rules.map ruleT).take j)) := ⟨Kd.R_below HRB.out hb6⟩
              have HCC := Aside0.mk (condition_calls HOK.out A5 c5 w6 (Kd.C_below HC5.out (HBQ.out ▸ HB6.out)) HL5.out)
              rw [HV.out, ← HCT.out] at HCC
              clear hb6
              refine hK.out _ _ ⟨(blk_cell HX6.out 0), (blk_cell HX6.out 1), (blk_cell HX6.out 2), (blk_cell HX6.out 3), (blk_cell HX6.out 4)⟩ (fun hHeld => ?_)
              clear hK K
              refine norm_ (a' := ?_) ?_ ?_
              rotate_left
              · show Act.put _ (some 91) _ = _
                simp only [Act.put, List.setIfInBounds_toArray, List.set_cons_zero, List.set_cons_succ, i64_w, i32_w]
                rfl
              refine pure_ (i := 5) (N := some 92) (v := ?_) (a' := ?_) #[true, true, true, true, true, true, true, true, false, false, false, false, false] rfl rfl (by kernel_rfl) (fun _ _ _ h => h) (Or.inl ⟨by rfl, ?_⟩) ?_ ?_
              rotate_left
              · intro w'
                go_simp
                rw [if_neg (by omega)]
              rotate_left
              · simp only [Act.put, List.setIfInBounds_toArray, List.set_cons_zero, List.set_cons_succ, i64_w, i32_w]
                rfl
              refine one_ (i := 8) (N := some 95) #[true, true, true, true, true, true, true, true, true, false, false, false, false] rfl rfl (by kernel_rfl) (by decide) (fun K hK => ?_)
              refine goes_ Tryd.func40 (by kernel_rfl) rfl #[.agg #[.int .i64 k, .string a0, .string a1, .slice A5 m c5]] (by rfl) rfl rfl (by simp only [List.map_toArray, List.map_cons, List.map_nil]; rfl) ?_
              refine HCC.out.mono ?_
              rintro e w8 ⟨rfl, hb8⟩
              refine ⟨_, rfl, ?_⟩
              have HX8 : Aside0 (w8.heap[wq.heap.size]? = some (.cells #[.bool y, .int .i64 k, .string a0, .string a1, .slice A5 m c5] 51 (0, 0))) := ⟨blk_below HX6.out hb8⟩
              have HB8 : Aside0 (Below B w1 w8) := ⟨HB6.out.trans (hb8.mono (by have := HB6.out.size; have := HBQ.out; omega))⟩
              have HR8 : Aside0 (Kd.string.R 9 w8 B (fun _ => True) u3 (L ++ (rules.map ruleT).take j)) := ⟨Kd.R_below HR6.out hb8⟩
              clear hb8
              refine hK.out _ _ ⟨(blk_cell HX8.out 0), (blk_cell HX8.out 1), (blk_cell HX8.out 2), (blk_cell HX8.out 3), (blk_cell HX8.out 4)⟩ (fun hHeld => ?_)
              clear hK K
              refine norm_ (a' := ?_) ?_ ?_
              rotate_left
              · show Act.put _ (some 95) _ = _
                simp only [Act.put, List.setIfInBounds_toArray, List.set_cons_zero, List.set_cons_succ, i64_w, i32_w]
                rfl
              refine pure_ (i := 9) (N := some 96) (v := ?_) (a' := ?_) #[true, true, true, true, true, true, true, true, true, true, false, false, false] rfl rfl (by kernel_rfl) (fun _ _ _ h => h) (Or.inl ⟨by rfl, ?_⟩) ?_ ?_
              rotate_left
              · intro w'
                go_simp
                rw [if_neg (by omega)]
              rotate_left
              · simp only [Act.put, List.setIfInBounds_toArray, List.set_cons_zero, List.set_cons_succ, i64_w, i32_w]
                rfl
              refine one_ (i := 10) (N := some 97) #[true, true, true, true, true, true, true, true, true, true, true, false, false] rfl rfl (by kernel_rfl) (by decide) (fun K hK => ?_)
              refine value_ (w1 := ?_) (v := ?_) (by rfl) rfl ?_ ?_
              rotate_left 2
              · go_simp
                constructor
                · rfl
                · rfl
              refine hK.out _ _ ⟨(blk_cell (show (w8.alloc _).heap[wq.heap.size]? = _ from blk_alloc HX8.out _) 0), (blk_cell (show (w8.alloc _).heap[wq.heap.size]? = _ from blk_alloc HX8.out _) 1), (blk_cell (show (w8.alloc _).heap[wq.heap.size]? = _ from blk_alloc HX8.out _) 2), (blk_cell (show (w8.alloc _).heap[wq.heap.size]? = _ from blk_alloc HX8.out _) 3), (blk_cell (show (w8.alloc _).heap[wq.heap.size]? = _ from blk_alloc HX8.out _) 4)⟩ (fun hHeld => ?_)
              clear hK K
              refine norm_ (a' := ?_) ?_ ?_
              rotate_left
              · show Act.put _ (some 97) _ = _
                simp only [Act.put, List.setIfInBounds_toArray, List.set_cons_zero, List.set_cons_succ, i64_w, i32_w]
                rfl
              refine last_ (i := 11) (N := some 98) #[true, true, true, true, true, true, true, true, true, true, true, true, false] rfl rfl (by kernel_rfl) (by decide) (fun K hK => ?_)
              refine Kd.R_append_step Kd.string (w0 := w1) (W := w8) B (by rfl) _ _ 23 9 (.string ⟨#[]⟩) 16 rfl Tryd.underlying23 info_str2 rfl (by decide) (by decide) u3 (L ++ (rules.map ruleT).take j) (sy ++ (⟨#[32, 105, 102, 32]⟩ : ByteArray) ++ ct) [.string (sy ++ (⟨#[32, 105, 102, 32]⟩ : ByteArray) ++ ct)] (fun _ => True) (fun _ => False) rfl rfl rfl (fun _ hk => hk.elim) (fun _ _ => trivial) HR8.out HB8.out (by have := HB8.out.size; have := HBQ.out; omega) hlb ?_
              intro v7 w7 hO7 hB7 hg7 hat7
              have HO7 := Aside0.mk hO7
              have HB7 := Aside0.mk hB7
              clear hO7 hB7 hg7 hat7
              refine hK.out _ _ ?_
              clear hK K
              refine norm_ (a' := ?_) ?_ ?_
              rotate_left
              · show Act.put _ (some 98) _ = _
                simp only [Act.put, List.setIfInBounds_toArray, List.set_cons_zero, List.set_cons_succ, i64_w, i32_w]
                rfl
              refine pure_ (i := 12) (N := some 3) (v := ?_) (a' := ?_) #[true, true, true, true, true, true, true, true, true, true, true, true, true] rfl rfl (by kernel_rfl) (fun _ _ _ h => h) (Or.inl ⟨by rfl, ?_⟩) ?_ ?_
              rotate_left
              · intro w'
                go_simp
                with_reducible rfl
              rotate_left
              · simp only [Act.put, List.setIfInBounds_toArray, List.set_cons_zero, List.set_cons_succ, i64_w, i32_w]
                rfl
              refine done_ (by kernel_rfl) ?_

              have HO7' : Aside0 (Kd.string.R 9 w7 B (fun _ => True) v7 (L ++ (rules.map ruleT).take (j + 1))) := ⟨by
                have h := HO7.out
                rwa [List.append_assoc, show (rules.map ruleT).take j ++ [sy ++ (⟨#[32, 105, 102, 32]⟩ : ByteArray) ++ ct] = (rules.map ruleT).take (j + 1) from by rw [take_map _ _ HJL.out, ← HSJ.out, HRT.out]] at h⟩
              clear HO7
              go_wp2
              go_roundg (rules.length - (j + 1))
              case measure => have := HGK.out; have := HJL.out; omega
              case rel => exact ⟨j + 1, by first | rfl | go_num, ⟨HJL.out⟩, ⟨Nat.le_refl _⟩, HO7', HB7⟩
            · have l1 : decide (j < n3) = false := decide_eq_false hj
              have l2 : decide ((j : Int) < (n3 : Int)) = false := decide_eq_false (by omega)
              have l3 : ¬ (j : Int) < (n3 : Int) := by omega
              have HR1 : Aside0 (Kd.string.R 9 wq B (fun _ => True) u3 (L ++ rules.map ruleT)) := ⟨by
                have h := HR.out
                rwa [List.take_of_length_le (by rw [List.length_map]; have := HN3.out; omega)] at h⟩
              have HB' : Aside0 (Below w1.heap.size w1 wq) := ⟨HBQ.out ▸ HB.out⟩
              have t4 : wq.cell? ⟨w.heap.size, 4, none⟩ = some (.bool allow) := blk_cell (blk_below HX.out HB'.out) 4
              have HSY := Aside0.mk (says_calls allow wq)
              have hlb : ((L ++ rules.map ruleT).length + 1) * 16 ≤ 140737488355328 := by rw [List.length_append, List.length_map]; have := HLL.out; have := HO.out.rl; omega
              clear hj HR HJ HGK HB'
              go_wp2_with fail
              refine HSY.out.mono ?_
              rintro e w6 ⟨rfl, hb6⟩
              dsimp only
              have HZR : Aside0 (B ≤ wq.heap.size) := ⟨by rw [HBQ.out]; exact HB.out.size⟩
              have HB6 : Aside0 (Below B w1 w6) := ⟨HB.out.trans (hb6.mono HZR.out)⟩
              have HR6 : Aside0 (Kd.string.R 9 w6 B (fun _ => True) u3 (L ++ rules.map ruleT)) := ⟨Kd.R_below HR1.out hb6⟩
              obtain ⟨sy, hsy⟩ : ∃ sy, sy = sayB allow := ⟨_, rfl⟩
              have hss : sy.size ≤ 10 := by rw [hsy]; cases allow <;> decide
              rw [← hsy]
              have HSYE := Aside0.mk hsy
              clear hb6 HR1 HB HSY t4 hsy
              go_wp2_with (at_builtin; refine Kd.R_append Kd.string (w0 := w1) B rfl (.tmp 100) (.tmp 106) 23 9 (.string ⟨#[]⟩) 16 rfl Tryd.underlying23 info_str2 rfl (by decide) (by decide) u3 (L ++ rules.map ruleT) (((⟨#[100, 101, 102, 97, 117, 108, 116, 32]⟩ : ByteArray) ++ sy)) [.string (((⟨#[100, 101, 102, 97, 117, 108, 116, 32]⟩ : ByteArray) ++ sy))] (fun _ => True) (fun _ => False) rfl rfl rfl (fun _ hk => hk.elim) (fun _ _ => trivial) HR6.out HB6.out (by have := HB6.out.size; have := HBQ.out; omega) hlb ?_)
              intro v7 w7 hO7 hB7 hg7 hat7
              have hE : L ++ rules.map ruleT ++ [(⟨#[100, 101, 102, 97, 117, 108, 116, 32]⟩ : ByteArray) ++ sy] = linesT csp sh mixed rules allow := by rw [HLE.out, HSYE.out]; rfl
              rw [← List.append_assoc] at hO7
              rw [hE] at hO7
              have HJN := Aside0.mk (join_calls (linesT csp sh mixed rules allow) bSemi w7 hO7 (by rw [← hE, List.length_append]; exact Nat.succ_pos _) (by
                rw [← hE, List.length_append, List.length_append, List.length_map]; have := HLL.out; have := HO.out.rl; simp only [List.length_cons, List.length_nil]; omega) (by have := HO.out.zz; omega))
              have HB7 := Aside0.mk hB7
              clear hO7 hB7 hg7 hat7 hlb hE
              go_wp2_with fail
              refine HJN.out.mono ?_
              rintro e w8 ⟨rfl, hb8⟩
              dsimp only
              have HZ7 : Aside0 (B ≤ w7.heap.size) := ⟨by rw [HBQ.out]; exact HB7.out.size⟩
              have HB8 : Aside0 (Below B w1 w8) := ⟨HB7.out.trans (hb8.mono HZ7.out)⟩
              have hzz := HO.out.zz
              obtain ⟨jt, hjt⟩ : ∃ jt, jt = joinB (linesT csp sh mixed rules allow) bSemi := ⟨_, rfl⟩
              rw [← hjt] at hzz ⊢
              have HJT := Aside0.mk hjt
              clear hb8 hjt HJN
              go_wp2
              go_ret
              exact ⟨by rw [HJT.out]; rfl, HB1.out.trans (HB8.out.mono (Nat.le_of_lt HGB.out))⟩
end Go.Proofs.YtngedmioeodmfaaDoor.Pu
namespace Go.Proofs.YtngedmioeodmfaaDoor.Pu
open Go.RowKit Go.Proofs.YtngedmioeodmfaaDoor.Pr Go.Proofs.YtngedmioeodmfaaDoorW.PrintWords Go.Proofs.YtngedmioeodmfaaDoorW.PrintLast Go.Proofs.YtngedmioeodmfaaDoorW.PrintMore Go.Proofs.YtngedmioeodmfaaDoor.Lx
open Go.Proofs.YtngedmioeodmfaaDoor.Ps hiding Tk
set_option linter.unusedVariables false
set_option linter.unusedSimpArgs false
set_option maxHeartbeats 16000000 in
set_option maxRecDepth 100000 in
theorem back_walk (a0 : ByteArray) (w : World) (hL : Laid w) : Calls Tryd.prog 9 #[.string a0] w fun e w' => e = .returned (.bool true) ∧ Below w.heap.size w w' := by
  have HL := Aside0.mk hL
  clear hL
  by_cases hs : a0.size > 4000
  · have l1 : decide ((4000 : Int) < (a0.size : Int)) = true := decide_eq_true (by omega)
    have HA := Aside0.mk (awake_walk w HL.out)
    clear hs
    go_enter Tryd.func9, Tryd.ntmps9
    go_wp2_with fail
    refine HA.out.mono ?_
    rintro e w1 ⟨rfl, hb⟩
    dsimp only
    go_wp2
    go_ret
    exact ⟨rfl, hb⟩
  · have l1 : decide ((4000 : Int) < (a0.size : Int)) = false := decide_eq_false (by omega)
    have HP := Aside0.mk (pol_any0 a0 w HL.out)
    clear hs
    cases hpa : polA a0 with
    | error f =>
      have hnz : f.1 ≠ 0 := polA_nz a0 f hpa
      obtain ⟨f1, f2⟩ := f
      rw [hpa] at HP
      clear hpa
      obtain ⟨k, hk⟩ := policy_same smallZ
      have HK := Aside0.mk (hk k (Nat.le_refl _))
      clear hk
      have l2 : (f1 != 0) = true := by simpa using hnz
      clear hnz
      go_enter Tryd.func9, Tryd.ntmps9
      go_wp2_with fail
      refine HP.out.mono ?_
      rintro e w1 ⟨rfl, hb⟩
      unfold zeroPol faultV
      dsimp only
      have HB1 := Aside0.mk hb
      clear hb HP
      go_upto_region 4 with (first | refine wpList_store_row rfl 27 _ _ rfl w1.heap.size (polcells (.slice none 0 0) (.slice none 0 0) ⟨#[]⟩ (.slice none 0 0) false) rfl rfl 27 (polcells (.slice none 0 0) (.slice none 0 0) ⟨#[]⟩ (.slice none 0 0) false) (blk_alloc (blk_new _ _) _) size_pol rfl (pol_one ⟨rfl, rfl, rfl⟩ _ _) ?_ | refine wpList_store_row rfl 30 _ _ rfl (w1.heap.size + 1) #[.int .i64 f1, .int .i64 f2] rfl rfl 30 #[.int .i64 0, .int .i64 0] ((setRow_other _ _ _ _ (by omega)).trans (blk_new2 _ _ _ _ _)) size_fault rfl (by simp [Value.oneCell']) ?_)
      obtain ⟨w2, hw2⟩ : ∃ w2, w2 = sv2 w1 (polcells (.slice none 0 0) (.slice none 0 0) ⟨#[]⟩ (.slice none 0 0) false) #[.int .i64 f1, .int .i64 f2] := ⟨_, rfl⟩
      have hw2' := hw2
      unfold sv2 at hw2'
      rw [← hw2']
      have HB2 : Aside0 (Below w1.heap.size w1 w2) := ⟨by rw [hw2]; exact sv2_below _ _ _⟩
      have HP2 : Aside0 (w2.heap[w1.heap.size]? = some (.cells (polcells (.slice none 0 0) (.slice none 0 0) ⟨#[]⟩ (.slice none 0 0) false) 27 (0, 0))) := ⟨by rw [hw2]; exact sv2_pol _ _ _⟩
      have HT2 : Aside0 (w2.heap[w1.heap.size + 1]? = some (.cells #[.int .i64 f1, .int .i64 f2] 30 (0, 0))) := ⟨by rw [hw2]; exact sv2_flt _ _ _⟩
      clear hw2 hw2'
      have e0 : w2.cell? ⟨w1.heap.size + 1, 0, none⟩ = some (.int .i64 f1) := blk_cell HT2.out 0
      have hc1 : Kd.string.C w2 none 0 [] := (Kd.R_reads' (Kd.R_nil Kd.string 9 w2 0 (fun _ => True))).2.2
      have hc2 : k44.C w2 none 0 [] := (Kd.R_reads' (Kd.R_nil k44 44 w2 0 (fun _ => True))).2.2
      have hc3 : k51.C w2 none 0 [] := (Kd.R_reads' (Kd.R_nil k51 51 w2 0 (fun _ => True))).2.2
      have HSM := Aside0.mk (parapetref19_SamePolicy.calls k none 0 [] none 0 [] ⟨#[]⟩ none 0 [] false none 0 [] none 0 [] ⟨#[]⟩ none 0 [] false true w2 hc1 (Nat.le_refl _) hc2 (Nat.le_refl _) hc3 (Nat.le_refl _) hc1 (Nat.le_refl _) hc2 (Nat.le_refl _) hc3 (Nat.le_refl _) HK.out)
      clear hc1 hc2 hc3
      go_wp2_with (first | refine wpList_load_row rfl 27 _ rfl w1.heap.size rfl 27 (polcells (.slice none 0 0) (.slice none 0 0) ⟨#[]⟩ (.slice none 0 0) false) (0, 0) _ HP2.out Tryd.underlying27 rfl size_pol ?_)
      refine HSM.out.mono ?_
      rintro e w3 ⟨rfl, hb3⟩
      dsimp only
      have HBW : Aside0 (Below w.heap.size w w3) := ⟨HB1.out.trans ((HB2.out.trans (hb3.mono HB2.out.size)).mono HB1.out.size)⟩
      have HA := Aside0.mk (awake_walk w3 (Laid.below HL.out HBW.out))
      clear hb3 HSM e0
      go_wp2_with fail
      refine HA.out.mono ?_
      rintro e w4 ⟨rfl, hb4⟩
      dsimp only
      have HBE : Aside0 (Below w.heap.size w w4) := ⟨HBW.out.trans (hb4.mono HBW.out.size)⟩
      clear hb4
      go_wp2
      go_ret
      exact ⟨rfl, HBE.out⟩
    | ok st =>
      have hrd := read_ok hpa
      rw [hpa] at HP
      have HOK := Aside0.mk hrd.okP
      have HSMALL := Aside0.mk hrd.small
      have HBC := Aside0.mk (back_cases hpa)
      clear hrd hpa
      obtain ⟨csp, sh, mixed, rules, allow, items, mm, md⟩ := st
      obtain ⟨t, ht⟩ : ∃ t, t = polText csp sh mixed rules allow := ⟨_, rfl⟩
      have HT := Aside0.mk ht
      clear ht
      obtain ⟨k, hk⟩ := policy_same HSMALL.out
      have HK := Aside0.mk (hk k (Nat.le_refl _))
      clear hk HSMALL
      go_enter Tryd.func9, Tryd.ntmps9
      go_wp2_with fail
      refine HP.out.mono ?_
      rintro e w1 ⟨v0, v1, v3, rfl, hv, hb⟩
      obtain ⟨A0, c0, e0⟩ := Kd.R_slice hv.rC
      obtain ⟨A1, c1, e1⟩ := Kd.R_slice hv.rS
      obtain ⟨A3, c3, e3⟩ := Kd.R_slice hv.rR
      subst e0 e1 e3
      unfold polcells faultV
      dsimp only
      have HB1 := Aside0.mk hb
      have HF1 : Aside0 (_ ∧ _ ∧ _) := ⟨(Kd.R_reads' hv.rC).2, (Kd.R_reads' hv.rS).2, (Kd.R_reads' hv.rR).2⟩
      clear hv hb HP
      dsimp only at HF1
      obtain ⟨n0, hn0⟩ : ∃ n, n = csp.length := ⟨_, rfl⟩
      obtain ⟨n1, hn1⟩ : ∃ n, n = sh.length := ⟨_, rfl⟩
      obtain ⟨n3, hn3⟩ : ∃ n, n = rules.length := ⟨_, rfl⟩
      rw [← hn0, ← hn1, ← hn3]
      have HN : Aside0 (n0 = csp.length ∧ n1 = sh.length ∧ n3 = rules.length) := ⟨⟨hn0, hn1, hn3⟩⟩
      clear hn0 hn1 hn3
      go_upto_region 4 with (first | refine wpList_store_row rfl 27 _ _ rfl w1.heap.size (polcells (.slice A0 n0 c0) (.slice A1 n1 c1) mixed (.slice A3 n3 c3) allow) rfl rfl 27 (polcells (.slice none 0 0) (.slice none 0 0) ⟨#[]⟩ (.slice none 0 0) false) (blk_alloc (blk_new _ _) _) size_pol rfl (pol_one ⟨rfl, rfl, rfl⟩ _ _) ?_ | refine wpList_store_row rfl 30 _ _ rfl (w1.heap.size + 1) #[.int .i64 0, .int .i64 0] rfl rfl 30 #[.int .i64 0, .int .i64 0] ((setRow_other _ _ _ _ (by omega)).trans (blk_new2 _ _ _ _ _)) size_fault rfl (by simp [Value.oneCell']) ?_)
      obtain ⟨w2, hw2⟩ : ∃ w2, w2 = sv2 w1 (polcells (.slice A0 n0 c0) (.slice A1 n1 c1) mixed (.slice A3 n3 c3) allow) #[.int .i64 0, .int .i64 0] := ⟨_, rfl⟩
      have hw2' := hw2
      unfold sv2 at hw2'
      rw [← hw2']
      have HB2 : Aside0 (Below w1.heap.size w1 w2) := ⟨by rw [hw2]; exact sv2_below _ _ _⟩
      have HP2 : Aside0 (w2.heap[w1.heap.size]? = some (.cells (polcells (.slice A0 n0 c0) (.slice A1 n1 c1) mixed (.slice A3 n3 c3) allow) 27 (0, 0))) := ⟨by rw [hw2]; exact sv2_pol _ _ _⟩
      have HT2 : Aside0 (w2.heap[w1.heap.size + 1]? = some (.cells #[.int .i64 0, .int .i64 0] 30 (0, 0))) := ⟨by rw [hw2]; exact sv2_flt _ _ _⟩
      clear hw2 hw2'
      have e0 : w2.cell? ⟨w1.heap.size + 1, 0, none⟩ = some (.int .i64 0) := blk_cell HT2.out 0
      have HTX := Aside0.mk (text_calls HOK.out A0 A1 A3 n0 c0 n1 c1 n3 c3 w2 (Kd.C_below HF1.out.1.2 HB2.out) HN.out.1 (by rw [HN.out.1]; exact HF1.out.1.1) (Kd.C_below HF1.out.2.1.2 HB2.out) HN.out.2.1 (by rw [HN.out.2.1]; exact HF1.out.2.1.1) (Kd.C_below HF1.out.2.2.2 HB2.out) HN.out.2.2 (by rw [HN.out.2.2]; exact HF1.out.2.2.1))
      rw [← HT.out] at HTX
      rw [← HT.out] at HBC
      clear HOK
      go_wp2_with (first | refine wpList_load_row rfl 27 _ rfl w1.heap.size rfl 27 (polcells (.slice A0 n0 c0) (.slice A1 n1 c1) mixed (.slice A3 n3 c3) allow) (0, 0) _ HP2.out Tryd.underlying27 rfl size_pol ?_)
      refine HTX.out.mono ?_
      rintro e w3 ⟨rfl, hb3⟩
      dsimp only
      have HB3 := Aside0.mk hb3
      have HBW3 : Aside0 (Below w.heap.size w w3) := ⟨HB1.out.trans ((HB2.out.trans (hb3.mono HB2.out.size)).mono HB1.out.size)⟩
      have HQ := Aside0.mk (pol_any0 t w3 (Laid.below HL.out HBW3.out))
      clear hb3
      clear HTX e0
      go_wp2_with fail
      rcases HBC.out with ⟨⟨csp', sh', mixed', rules', allow', items', mm', md'⟩, h1, ⟨q1, q2, q3, q4, q5⟩, htl⟩ | ⟨a, h1⟩
      · dsimp only at q1 q2 q3 q4 q5
        obtain ⟨q1, q2, q3, q4, q5⟩ := And.intro q1.symm (And.intro q2.symm (And.intro q3.symm (And.intro q4.symm q5.symm)))
        subst q1 q2 q3 q4 q5
        rw [h1] at HQ
        clear h1 HBC
        refine HQ.out.mono ?_
        rintro e w4 ⟨v0, v1, v3, rfl, hv, hb4⟩
        obtain ⟨B0, d0, e0⟩ := Kd.R_slice hv.rC
        obtain ⟨B1, d1, e1⟩ := Kd.R_slice hv.rS
        obtain ⟨B3, d3, e3⟩ := Kd.R_slice hv.rR
        subst e0 e1 e3
        unfold polcells faultV
        dsimp only
        have HB4 := Aside0.mk hb4
        have HF4 : Aside0 (_ ∧ _ ∧ _) := ⟨(Kd.R_reads' hv.rC).2, (Kd.R_reads' hv.rS).2, (Kd.R_reads' hv.rR).2⟩
        clear hv hb4 HQ
        dsimp only at HF4
        rw [← HN.out.1, ← HN.out.2.1, ← HN.out.2.2]
        go_upto_region 8 with (first | refine wpList_store_row rfl 27 _ _ rfl w4.heap.size (polcells (.slice B0 n0 d0) (.slice B1 n1 d1) mixed (.slice B3 n3 d3) allow) rfl rfl 27 (polcells (.slice none 0 0) (.slice none 0 0) ⟨#[]⟩ (.slice none 0 0) false) (blk_alloc (blk_new _ _) _) size_pol rfl (pol_one ⟨rfl, rfl, rfl⟩ _ _) ?_ | refine wpList_store_row rfl 30 _ _ rfl (w4.heap.size + 1) #[.int .i64 0, .int .i64 0] rfl rfl 30 #[.int .i64 0, .int .i64 0] ((setRow_other _ _ _ _ (by omega)).trans (blk_new2 _ _ _ _ _)) size_fault rfl (by simp [Value.oneCell']) ?_)
        obtain ⟨w5, hw5⟩ : ∃ w5, w5 = sv2 w4 (polcells (.slice B0 n0 d0) (.slice B1 n1 d1) mixed (.slice B3 n3 d3) allow) #[.int .i64 0, .int .i64 0] := ⟨_, rfl⟩
        have hw5' := hw5
        unfold sv2 at hw5'
        rw [← hw5']
        have HB5 : Aside0 (Below w4.heap.size w4 w5) := ⟨by rw [hw5]; exact sv2_below _ _ _⟩
        have HP5 : Aside0 (w5.heap[w4.heap.size]? = some (.cells (polcells (.slice B0 n0 d0) (.slice B1 n1 d1) mixed (.slice B3 n3 d3) allow) 27 (0, 0))) := ⟨by rw [hw5]; exact sv2_pol _ _ _⟩
        have HT5 : Aside0 (w5.heap[w4.heap.size + 1]? = some (.cells #[.int .i64 0, .int .i64 0] 30 (0, 0))) := ⟨by rw [hw5]; exact sv2_flt _ _ _⟩
        clear hw5 hw5'
        have e5 : w5.cell? ⟨w4.heap.size + 1, 0, none⟩ = some (.int .i64 0) := blk_cell HT5.out 0
        have HBW5 : Aside0 (Below w.heap.size w w5) := ⟨HBW3.out.trans ((HB4.out.trans (HB5.out.mono HB4.out.size)).mono HBW3.out.size)⟩
        have HB25 : Aside0 (Below w2.heap.size w2 w5) := ⟨HB3.out.trans ((HB4.out.trans (HB5.out.mono HB4.out.size)).mono HB3.out.size)⟩
        have HB15 : Aside0 (Below w1.heap.size w1 w5) := ⟨HB2.out.trans (HB25.out.mono HB2.out.size)⟩
        have hsm := parapetref19_SamePolicy.calls k A0 c0 csp A1 c1 sh mixed A3 c3 rules allow B0 d0 csp B1 d1 sh mixed B3 d3 rules allow true w5 (Kd.C_below HF1.out.1.2 HB15.out) HF1.out.1.1 (Kd.C_below HF1.out.2.1.2 HB15.out) HF1.out.2.1.1 (Kd.C_below HF1.out.2.2.2 HB15.out) HF1.out.2.2.1 (Kd.C_below HF4.out.1.2 HB5.out) HF4.out.1.1 (Kd.C_below HF4.out.2.1.2 HB5.out) HF4.out.2.1.1 (Kd.C_below HF4.out.2.2.2 HB5.out) HF4.out.2.2.1 HK.out
        rw [← HN.out.1, ← HN.out.2.1, ← HN.out.2.2] at hsm
        have HSM := Aside0.mk hsm
        clear hsm
        have l5 : decide ((3000 : Int) < (t.size : Int)) = false := decide_eq_false (by omega)
        have p0 : w5.cell? ⟨w1.heap.size, 0, none⟩ = some (.slice A0 n0 c0) := blk_cell (blk_below HP2.out HB25.out) 0
        have p1 : w5.cell? ⟨w1.heap.size, 1, none⟩ = some (.slice A1 n1 c1) := blk_cell (blk_below HP2.out HB25.out) 1
        have p2 : w5.cell? ⟨w1.heap.size, 2, none⟩ = some (.string mixed) := blk_cell (blk_below HP2.out HB25.out) 2
        have p3 : w5.cell? ⟨w1.heap.size, 3, none⟩ = some (.slice A3 n3 c3) := blk_cell (blk_below HP2.out HB25.out) 3
        have p4 : w5.cell? ⟨w1.heap.size, 4, none⟩ = some (.bool allow) := blk_cell (blk_below HP2.out HB25.out) 4
        have q0 : w5.cell? ⟨w4.heap.size, 0, none⟩ = some (.slice B0 n0 d0) := blk_cell HP5.out 0
        have q1 : w5.cell? ⟨w4.heap.size, 1, none⟩ = some (.slice B1 n1 d1) := blk_cell HP5.out 1
        have q2 : w5.cell? ⟨w4.heap.size, 2, none⟩ = some (.string mixed) := blk_cell HP5.out 2
        have q3 : w5.cell? ⟨w4.heap.size, 3, none⟩ = some (.slice B3 n3 d3) := blk_cell HP5.out 3
        have q4 : w5.cell? ⟨w4.heap.size, 4, none⟩ = some (.bool allow) := blk_cell HP5.out 4
        go_wp2_with fail
        refine HSM.out.mono ?_
        rintro e w6 ⟨rfl, hb6⟩
        dsimp only
        have HBW6 : Aside0 (Below w.heap.size w w6) := ⟨HBW5.out.trans (hb6.mono HBW5.out.size)⟩
        have HA := Aside0.mk (awake_walk w6 (Laid.below HL.out HBW6.out))
        clear hb6 HSM e5 p0 p1 p2 p3 p4 q0 q1 q2 q3 q4
        go_wp2_with fail
        refine HA.out.mono ?_
        rintro e w7 ⟨rfl, hb7⟩
        dsimp only
        have HBE : Aside0 (Below w.heap.size w w7) := ⟨HBW6.out.trans (hb7.mono HBW6.out.size)⟩
        clear hb7
        go_wp2
        go_ret
        exact ⟨rfl, HBE.out⟩
      · rw [h1] at HQ
        clear h1 HBC
        refine HQ.out.mono ?_
        rintro e w4 ⟨rfl, hb4⟩
        unfold zeroPol faultV
        dsimp only
        have HB4 := Aside0.mk hb4
        clear hb4 HQ
        go_upto_region 8 with (first | refine wpList_store_row rfl 27 _ _ rfl w4.heap.size (polcells (.slice none 0 0) (.slice none 0 0) ⟨#[]⟩ (.slice none 0 0) false) rfl rfl 27 (polcells (.slice none 0 0) (.slice none 0 0) ⟨#[]⟩ (.slice none 0 0) false) (blk_alloc (blk_new _ _) _) size_pol rfl (pol_one ⟨rfl, rfl, rfl⟩ _ _) ?_ | refine wpList_store_row rfl 30 _ _ rfl (w4.heap.size + 1) #[.int .i64 2, .int .i64 a] rfl rfl 30 #[.int .i64 0, .int .i64 0] ((setRow_other _ _ _ _ (by omega)).trans (blk_new2 _ _ _ _ _)) size_fault rfl (by simp [Value.oneCell']) ?_)
        obtain ⟨w5, hw5⟩ : ∃ w5, w5 = sv2 w4 (polcells (.slice none 0 0) (.slice none 0 0) ⟨#[]⟩ (.slice none 0 0) false) #[.int .i64 2, .int .i64 a] := ⟨_, rfl⟩
        have hw5' := hw5
        unfold sv2 at hw5'
        rw [← hw5']
        have HB5 : Aside0 (Below w4.heap.size w4 w5) := ⟨by rw [hw5]; exact sv2_below _ _ _⟩
        have HP5 : Aside0 (w5.heap[w4.heap.size]? = some (.cells (polcells (.slice none 0 0) (.slice none 0 0) ⟨#[]⟩ (.slice none 0 0) false) 27 (0, 0))) := ⟨by rw [hw5]; exact sv2_pol _ _ _⟩
        have HT5 : Aside0 (w5.heap[w4.heap.size + 1]? = some (.cells #[.int .i64 2, .int .i64 a] 30 (0, 0))) := ⟨by rw [hw5]; exact sv2_flt _ _ _⟩
        clear hw5 hw5'
        have e5 : w5.cell? ⟨w4.heap.size + 1, 0, none⟩ = some (.int .i64 2) := blk_cell HT5.out 0
        have HBW5 : Aside0 (Below w.heap.size w w5) := ⟨HBW3.out.trans ((HB4.out.trans (HB5.out.mono HB4.out.size)).mono HBW3.out.size)⟩
        by_cases hbig : 3000 < t.size
        · have l5 : decide ((3000 : Int) < (t.size : Int)) = true := decide_eq_true (by omega)
          have HA := Aside0.mk (awake_walk w5 (Laid.below HL.out HBW5.out))
          go_wp2_with fail
          refine HA.out.mono ?_
          rintro e w6 ⟨rfl, hb6⟩
          dsimp only
          have HBE : Aside0 (Below w.heap.size w w6) := ⟨HBW5.out.trans (hb6.mono HBW5.out.size)⟩
          clear hb6
          go_wp2
          go_ret
          exact ⟨rfl, HBE.out⟩
        · have l5 : decide ((3000 : Int) < (t.size : Int)) = false := decide_eq_false (by omega)
          have HA := Aside0.mk (awake_walk w5 (Laid.below HL.out HBW5.out))
          go_wp2_with fail
          refine HA.out.mono ?_
          rintro e w6 ⟨rfl, hb6⟩
          dsimp only
          have HBE : Aside0 (Below w.heap.size w w6) := ⟨HBW5.out.trans (hb6.mono HBW5.out.size)⟩
          clear hb6
          go_wp2
          go_ret
          exact ⟨rfl, HBE.out⟩
end Go.Proofs.YtngedmioeodmfaaDoor.Pu
