/- 3 texts of the proof, put together, less what is not used; what a tool printed stands among them. -/
import Derived.Lib.Join
import Derived.Test.YtdlahgamdigkhaaDoorMRe9
set_option linter.unusedVariables false
set_option linter.unusedSimpArgs false
namespace Go.Proofs.YtdlahgamdigkhaaDoor.Sn
open Go.RowKit Go.Proofs.YtdlahgamdigkhaaDoor.Pr Go.Proofs.YtdlahgamdigkhaaDoorW.PrintWords Go.Proofs.YtdlahgamdigkhaaDoor.Lx
open Go.Proofs.YtdlahgamdigkhaaDoor.Ps hiding Tk lowB
open Go.Proofs.YtdlahgamdigkhaaDoor.Pu
abbrev Tk := S69
section
variable {T : List Tk} {e : Int}
def DeepB (D : Nat) (f : Nat → Res Cd) : Prop := ∀ p c q, f p = .ok (c, q) → dpC c ≤ D
theorem kidsL_deep {D : Nat} {one : Nat → Res Cd} (h : DeepB D one) {w : ByteArray} : ∀ (f : Nat) (acc : List Cd) (p : Nat) (l : List Cd) (q : Nat), (∀ c ∈ acc, dpC c ≤ D) → kidsL T e one w f acc p = .ok (l, q) → ∀ c ∈ l, dpC c ≤ D
 | 0, acc, p, l, q, ha, hr => by cases hr; exact ha
 | f + 1, acc, p, l, q, ha, hr => by
  rw [kidsL] at hr
  split at hr
  ·cases h1 : one (p + 1) with
   | error x => rw [h1] at hr; cases hr
   | ok x =>
    obtain ⟨c, q1⟩ := x
    rw [h1] at hr
    refine kidsL_deep h f _ _ _ _ (fun d hd => ?_) hr
    rcases List.mem_append.1 hd with hd | hd
    ·exact ha d hd
    ·rw [List.mem_singleton.1 hd]; exact h _ _ _ h1
  ·cases hr; exact ha
theorem kidsP_deep {D : Nat} {one : Nat → Res Cd} (h : DeepB D one) {w : ByteArray} {kind : Int} : DeepB (D + 1) (kidsP T e kind w one) := by
 intro p c q hr
 rw [kidsP] at hr
 cases h1 : one p with
 | error x => rw [h1] at hr; cases hr
 | ok x =>
  obtain ⟨c1, q1⟩ := x
  rw [h1] at hr
  simp only at hr
  cases hl : kidsL T e one w (T.length + 1 - q1) [c1] q1 with
  | error x => rw [hl] at hr; cases hr
  | ok y =>
   obtain ⟨l, q2⟩ := y
   rw [hl] at hr
   have hs := kidsL_deep h _ _ _ _ _ (fun d hd => by rw [List.mem_singleton.1 hd]; exact h _ _ _ h1) hl
   simp only at hr
   split at hr
   ·rename_i h1l
    have h3 := Except.ok.inj hr; simp only [Prod.mk.injEq] at h3
    obtain ⟨x, rfl⟩ : ∃ x, l = [x] := List.length_eq_one_iff.1 h1l
    rw [← h3.1]
    exact Nat.le_succ_of_le (hs x (List.mem_cons_self ..))
   ·have h3 := Except.ok.inj hr; simp only [Prod.mk.injEq] at h3
    rw [← h3.1, cond0, dpC]
    have := dpL_le hs
    omega
theorem atomP_deep : DeepB 1 (atomP T e) := by
 intro p c q h
 rw [atomP] at h
 cases h1 : wordP T e atomWords p with
 | error x => rw [h1] at h; cases h
 | ok x =>
  obtain ⟨w, q1⟩ := x
  rw [h1] at h
  simp only at h
  unfold atomK at h
  have hA : ∀ {f : ByteArray → ByteArray} {r : Res ByteArray}, atomT w f r = .ok (c, q) → dpC c ≤ 1 := by
   intro f r hr
   cases r with
   | error x => cases hr
   | ok x => obtain ⟨t, q3⟩ := x; simp only [atomT] at hr; have h3 := Except.ok.inj hr; simp only [Prod.mk.injEq] at h3; rw [← h3.1, dpC, dpL]; exact Nat.le_refl 1
  split at h
  ·have h3 := Except.ok.inj h; simp only [Prod.mk.injEq] at h3; rw [← h3.1, cond0, dpC, dpL]; exact Nat.le_refl 1
  split at h
  ·have h3 := Except.ok.inj h; simp only [Prod.mk.injEq] at h3; rw [← h3.1, cond0, dpC, dpL]; exact Nat.le_refl 1
  split at h
  ·exact hA h
  split at h
  ·exact hA h
  split at h
  ·exact hA h
  have h3 := Except.ok.inj h; simp only [Prod.mk.injEq] at h3; rw [← h3.1, dpC, dpL]; exact Nat.le_refl 1
theorem closeK_one {c d : Cd} {r : Res ByteArray} {q : Nat} (h : closeK c r = .ok (d, q)) : d = c := by
 cases r with
 | error x => cases h
 | ok x => obtain ⟨t, q2⟩ := x; simp only [closeK] at h; have h3 := Except.ok.inj h; simp only [Prod.mk.injEq] at h3; exact h3.1.symm
theorem notN_deep : ∀ n, DeepB (2 * n + 1) (notN T e n)
 | 0 => by
  intro p c q h
  rw [notN] at h
  split at h
  ·cases h
  ·split at h
   ·cases h
   ·exact atomP_deep _ _ _ h
 | n + 1 => by
  intro p c q h
  rw [notN] at h
  split at h
  ·obtain ⟨c1, q1, h1, h2⟩ := wrapNot_ok h
   cases h2
   have := notN_deep n _ _ _ h1
   rw [cond0, dpC, dpL, dpL]; omega
  ·split at h
   ·obtain ⟨c1, q1, h1, h2⟩ := closeP_ok h
    rw [closeK_one h2]
    have := kidsP_deep (kidsP_deep (notN_deep n)) _ _ _ h1
    omega
   ·have := atomP_deep _ _ _ h; omega
theorem condP_deep : DeepB 63 (condP T e) := kidsP_deep (kidsP_deep (notN_deep 30))
end
theorem shape_tree {c : Cd} (h : Shape c) : treeB c = true := by
 induction h with
 | true_ => rw [treeB_eq]; rfl
 | false_ => rw [treeB_eq]; rfl
 | bare w hw =>
  rw [treeB_eq]
  have : atomB ⟨w, ⟨#[]⟩⟩ = true := by
   simp only [List.mem_cons, List.not_mem_nil, or_false] at hw
   rcases hw with rfl | rfl | rfl | rfl <;> decide +kernel
  simp [this]
 | wordA w t hw ht hlow =>
  rw [treeB_eq]
  have : ∀ t, atomB ⟨w, t⟩ = true := fun t => by
   simp only [List.mem_cons, List.not_mem_nil, or_false] at hw
   rcases hw with rfl | rfl | rfl | rfl <;> rfl
  simp [this]
 | strA w t hw ht =>
  rw [treeB_eq]
  have : ∀ t, atomB ⟨w, t⟩ = true := fun t => by
   simp only [List.mem_cons, List.not_mem_nil, or_false] at hw
   rcases hw with rfl | rfl <;> rfl
  simp [this]
 | not_ c h ih =>
  rw [treeB_eq]
  have : everyB [c] = true := by rw [everyB_all]; simp [ih]
  simp [cond0, noAtom, this]
 | many k hk l hl h ih =>
  rw [treeB_eq]
  have : everyB l = true := by rw [everyB_all]; exact List.all_eq_true.2 ih
  rcases hk with rfl | rfl <;> simp [cond0, noAtom, this, hl]
theorem atomsL_all {P : At → Prop} : ∀ l : List Cd, (∀ c ∈ l, ∀ a ∈ atomsC c, P a) → ∀ a ∈ atomsL l, P a
 | [], _ => fun a ha => by rw [atomsL] at ha; cases ha
 | c :: l, h => fun a ha => by
  rw [atomsL, List.mem_append] at ha
  rcases ha with ha | ha
  ·exact h c (List.mem_cons_self ..) a ha
  ·exact atomsL_all l (fun d hd => h d (List.mem_cons_of_mem _ hd)) a ha
def TxA (a : At) : Prop := a.f0.size ≤ 100 ∧ a.f1.size ≤ 3000
theorem shape_atoms {c : Cd} (h : Shape c) : ∀ a ∈ atomsC c, TxA a := by
 induction h with
 | true_ => rw [atomsC_eq]; intro a ha; simp [cond0, atomsL] at ha
 | false_ => rw [atomsC_eq]; intro a ha; simp [cond0, atomsL] at ha
 | bare w hw =>
  rw [atomsC_eq]; intro a ha
  simp only [if_true, atomsL, List.append_nil, List.mem_singleton] at ha
  rw [ha]
  simp only [List.mem_cons, List.not_mem_nil, or_false] at hw
  rcases hw with rfl | rfl | rfl | rfl <;> exact ⟨by decide, by decide⟩
 | wordA w t hw ht hlow =>
  rw [atomsC_eq]; intro a ha
  simp only [if_true, atomsL, List.append_nil, List.mem_singleton] at ha
  rw [ha]
  refine ⟨?_, ht.2⟩
  simp only [List.mem_cons, List.not_mem_nil, or_false] at hw
  rcases hw with rfl | rfl | rfl | rfl <;> exact Nat.le_of_ble_eq_true rfl
 | strA w t hw ht =>
  rw [atomsC_eq]; intro a ha
  simp only [if_true, atomsL, List.append_nil, List.mem_singleton] at ha
  rw [ha]
  refine ⟨?_, ht.2.2⟩
  simp only [List.mem_cons, List.not_mem_nil, or_false] at hw
  rcases hw with rfl | rfl <;> exact Nat.le_of_ble_eq_true rfl
 | not_ c h ih =>
  rw [atomsC_eq]; intro a ha
  simp only [cond0, List.mem_append] at ha
  rcases ha with ha | ha
  ·simp at ha
  ·rw [atoms_one] at ha; exact ih a ha
 | many k hk l hl h ih =>
  rw [atomsC_eq]; intro a ha
  simp only [cond0, List.mem_append] at ha
  rcases ha with ha | ha
  ·rcases hk with rfl | rfl <;> simp at ha
  ·exact atomsL_all l ih a ha
structure PolOk (st : Pst) : Prop where
 l0 : st.csp.length ≤ 900000
 l1 : st.shares.length ≤ 900000
 hz : sizeL (condsR st.rules) ≤ 900000
 hs : SzA (atomsL (condsR st.rules))
 hcs : ∀ s ∈ st.csp, s.size ≤ 1000000
 hsh : ∀ s ∈ st.shares, s.f0.size ≤ 1000000 ∧ s.f1.length ≤ 1000000 ∧ s.f2.length ≤ 1000000 ∧ (∀ x ∈ s.f1, x.size ≤ 1000000) ∧ ∀ x ∈ s.f2, x.size ≤ 1000000
theorem sizes_le {n : Nat} : ∀ l : List Cd, (∀ c ∈ l, sizeC c ≤ n) → sizeL l ≤ n * l.length
 | [], _ => by rw [sizeL]; exact Nat.zero_le _
 | c :: l, h => by
  rw [sizeL, List.length_cons, Nat.mul_succ]
  have h1 := h c (List.mem_cons_self ..)
  have h2 := sizes_le l (fun d hd => h d (List.mem_cons_of_mem _ hd))
  omega
theorem read_pol {x : ByteArray} {st : Pst} (h : polA x = .ok st) : PolOk st := by
 have hr := (read_ok h).a
 have hn := hr.n
 have hi := hr.i
 have hc : ∀ c ∈ condsR st.rules, Shape c ∧ sizeC c ≤ 3000 := fun c hc => by
  rw [condsR, List.mem_map] at hc
  obtain ⟨r, hr2, rfl⟩ := hc
  exact hr.r r hr2
 refine ⟨by omega, by omega, ?_, fun a ha => ?_, fun s hs => ?_, fun s hs => ?_⟩
 ·have h1 := sizes_le (condsR st.rules) (fun c h2 => (hc c h2).2)
  rw [condsR, List.length_map] at h1
  rw [condsR]
  have : 3000 * st.rules.length ≤ 3000 * 60 := Nat.mul_le_mul_left _ (by omega)
  omega
 ·have := atomsL_all (P := TxA) _ (fun c h2 => shape_atoms (hc c h2).1) a ha
  exact ⟨by have := this.1; omega, by have := this.2; omega⟩
 ·have := (hr.c s hs).2.2; omega
 ·obtain ⟨ho, h1, h2⟩ := hr.s s hs
  exact ⟨by have := ho.o.2.2; omega, by omega, by omega, fun x hx => by have := (ho.m x hx).2; omega, fun x hx => by have := (ho.h x hx).2; omega⟩
theorem read_deep {x : ByteArray} {st : Pst} (h : polA x = .ok st) : ∀ r ∈ st.rules, dpC r.f1 ≤ 63 := by
 rw [polA, polT_eq] at h
 rcases tokM_cases x with ⟨ts, h1, hs, hv, hl⟩ | ⟨j, h1, hj⟩ | ⟨h1, hl⟩
 ·rw [h1, if_pos rfl] at h
  have := polP_all (A := fun _ => True) (S := fun _ => True) (C := fun c => dpC c ≤ 63) (fun _ _ _ _ => trivial) (fun _ _ _ _ => trivial) (fun p c q hc => condP_deep _ _ _ hc) h
  exact this.r
 ·rw [h1] at h; rw [if_neg (by exact (by decide : ¬ (8 : Int) = 0))] at h; cases h
 ·rw [h1] at h; rw [if_neg (by exact (by decide : ¬ (2 : Int) = 0))] at h; cases h
theorem read_cond {x : ByteArray} {st : Pst} (h : polA x = .ok st) : ∀ r ∈ st.rules, condB r.f1 = true := fun r hr => by
 have h1 := (read_ok h).a.r r hr
 have h2 := read_deep h r hr
 rw [condB, shape_tree h1.1, Bool.true_and]
 exact decide_eq_true (by omega)
end Go.Proofs.YtdlahgamdigkhaaDoor.Sn
namespace Go.Proofs.YtdlahgamdigkhaaDoor.Sn
open Go.RowKit Go.Proofs.YtdlahgamdigkhaaDoor.Pr Go.Proofs.YtdlahgamdigkhaaDoorW.PrintWords Go.Proofs.YtdlahgamdigkhaaDoorW.PrintLast Go.Proofs.YtdlahgamdigkhaaDoorW.PrintMore Go.Proofs.YtdlahgamdigkhaaDoor.Lx
open Go.Proofs.YtdlahgamdigkhaaDoor.Ps hiding Tk lowB
open Go.Proofs.YtdlahgamdigkhaaDoor.Pu
def chkS (f : Sh → Bool) (st : Pst) : Int := chkI f st.csp st.shares st.mixed st.rules
theorem check_pol (f : Sh → Bool) (st : Pst) (ho : PolOk st) (hf : ∀ s ∈ st.shares, s.f0 ≠ wStar → OrgB s.f0 (f s)) (A0 A1 A3 : Option Addr) (c0 c1 c3 : Nat) (w : World) (hP : PolAt w A0 A1 A3 st) (hL : Laid w) :
  Calls Tryd.prog 13 #[polS A0 A1 A3 c0 c1 c3 st] w fun e w' => e = .returned (.int .i64 (chkS f st)) ∧ Below w.heap.size w w' :=
 check_calls f A0 A1 A3 _ c0 _ c1 _ c3 st.mixed st.allow st.csp st.shares st.rules w hL hP.c0 hP.c1 hP.f3 rfl rfl rfl ho.l0 ho.l1 ho.hz ho.hs ho.hcs ho.hsh hf
theorem atoms_pol (st : Pst) (ho : PolOk st) (A0 A1 A3 : Option Addr) (c0 c1 c3 : Nat) (w : World) (hP : PolAt w A0 A1 A3 st) :
  Calls Tryd.prog 9 #[polS A0 A1 A3 c0 c1 c3 st] w fun e w' => ∃ v, e = .returned v ∧ k33.R 33 w' w.heap.size (fun _ => True) v (atomsP st.rules) ∧ Below w.heap.size w w' :=
 atoms_calls A0 A1 A3 _ c0 _ c1 _ c3 st.mixed st.allow st.rules w hP.f3 rfl ho.hz ho.hs
def tx1 : ByteArray := ⟨#[115, 104, 97, 114, 101, 32, 34, 104, 116, 116, 112, 115, 58, 47, 47, 97, 47, 34, 59, 32, 97, 108, 108, 111, 119, 32, 105, 102, 32, 99, 111, 114, 115, 32, 97, 110, 100, 32, 110, 111, 116, 32, 99, 111, 114, 115, 59]⟩
def tx2 : ByteArray := ⟨#[115, 104, 97, 114, 101, 32, 34, 104, 116, 116, 112, 115, 58, 47, 47, 97, 34, 32, 99, 114, 101, 100, 115, 59, 32, 97, 108, 108, 111, 119, 32, 105, 102, 32, 99, 111, 114, 115, 32, 97, 110, 100, 32, 110, 111, 116, 32, 99, 114, 101, 100, 115, 59]⟩
def org1 : ByteArray := ⟨#[104, 116, 116, 112, 115, 58, 47, 47, 97, 47]⟩
def org2 : ByteArray := ⟨#[104, 116, 116, 112, 115, 58, 47, 47, 97]⟩
def cdA (w : ByteArray) : Cd := ⟨3, ⟨w, ⟨#[]⟩⟩, []⟩
def st1 : Pst := ⟨[], [⟨org1, [], [], false⟩], wBlock, [⟨true, cond0 5 [cdA wCors, cond0 4 [cdA wCors]]⟩], false, 2, 0, 0⟩
def st2 : Pst := ⟨[], [⟨org2, [], [], true⟩], wBlock, [⟨true, cond0 5 [cdA wCors, cond0 4 [cdA wCreds]]⟩], false, 2, 0, 0⟩
theorem polA_1 : polA tx1 = .ok st1 := by kernel_rfl
theorem polA_2 : polA tx2 = .ok st2 := by kernel_rfl
theorem org_1 : OrgB org1 false := ⟨60, ⟨#[]⟩, ⟨#[]⟩, 0, 8, by kernel_rfl, rfl⟩
theorem org_2 : OrgB org2 true := ⟨60, ⟨#[104, 116, 116, 112, 115]⟩, ⟨#[97]⟩, 443, 0, by kernel_rfl, by decide +kernel⟩
theorem chk_1 : chkS (fun _ => false) st1 = 1 := by decide +kernel
theorem chk_2 : chkS (fun _ => true) st2 = 0 := by decide +kernel
theorem len_2 : (atomsP st2.rules).length = 2 := by decide +kernel
theorem chk_awake1 (A0 A1 A3 : Option Addr) (c0 c1 c3 : Nat) (w : World) (hP : PolAt w A0 A1 A3 st1) (hL : Laid w) : Calls Tryd.prog 13 #[.agg #[.slice A0 0 c0, .slice A1 1 c1, .string wBlock, .slice A3 1 c3, .bool false]] w fun e w' => e = .returned (.int .i64 1) ∧ Below w.heap.size w w' := by
 have h := check_pol (fun _ => false) st1 (read_pol polA_1) (fun s hs _ => by rw [st1] at hs; simp only [List.mem_singleton] at hs; rw [hs]; exact org_1) A0 A1 A3 c0 c1 c3 w hP hL
 rw [chk_1] at h
 exact h
theorem chk_awake2 (A0 A1 A3 : Option Addr) (c0 c1 c3 : Nat) (w : World) (hP : PolAt w A0 A1 A3 st2) (hL : Laid w) : Calls Tryd.prog 13 #[.agg #[.slice A0 0 c0, .slice A1 1 c1, .string wBlock, .slice A3 1 c3, .bool false]] w fun e w' => e = .returned (.int .i64 0) ∧ Below w.heap.size w w' := by
 have h := check_pol (fun _ => true) st2 (read_pol polA_2) (fun s hs _ => by rw [st2] at hs; simp only [List.mem_singleton] at hs; rw [hs]; exact org_2) A0 A1 A3 c0 c1 c3 w hP hL
 rw [chk_2] at h
 exact h
theorem atoms_awake (A0 A1 A3 : Option Addr) (c0 c1 c3 : Nat) (w : World) (hP : PolAt w A0 A1 A3 st2) : Calls Tryd.prog 9 #[.agg #[.slice A0 0 c0, .slice A1 1 c1, .string wBlock, .slice A3 1 c3, .bool false]] w fun e w' => ∃ A c, e = .returned (.slice A 2 c) ∧ Below w.heap.size w w' := by
 refine (atoms_pol st2 (read_pol polA_2) A0 A1 A3 c0 c1 c3 w hP).mono ?_
 rintro e w' ⟨v, rfl, hR, hb⟩
 obtain ⟨A, c, rfl⟩ := Kd.R_slice hR
 rw [len_2]
 exact ⟨A, c, rfl, hb⟩
set_option maxHeartbeats 16000000
set_option maxRecDepth 100000
theorem awake_calls (w : World) (hL : Laid w) : Calls Tryd.prog 8 #[] w fun e w' => e = .returned (.bool true) ∧ Below w.heap.size w w' := by
 have h1 := read_calls tx1 w
 unfold ReadQ at h1
 rw [polA_1] at h1
 have H1 := Aside0.mk h1
 have HLD := Aside0.mk hL
 clear h1 hL
 go_enter Tryd.func8, Tryd.ntmps8
 go_wp2_with fail
 refine H1.out.mono ?_
 rintro e w1 ⟨A0, A1, A3, c0, c1, c3, rfl, hP1, hb1⟩
 have e1 : polS A0 A1 A3 c0 c1 c3 st1 = .agg #[.slice A0 0 c0, .slice A1 1 c1, .string wBlock, .slice A3 1 c3, .bool false] := rfl
 rw [e1]
 dsimp only
 obtain ⟨wB, hwB⟩ : ∃ wB, wB = (w1.alloc (.cells #[.slice none 0 0, .slice none 0 0, .string ⟨#[]⟩, .slice none 0 0, .bool false] 26)).setRow w1.heap.size #[.slice A0 0 c0, .slice A1 1 c1, .string wBlock, .slice A3 1 c3, .bool false] := ⟨_, rfl⟩
 have hbB : Below w1.heap.size w1 wB := by rw [hwB]; exact below_setRow (below_alloc (Below.refl _ _) _) (Nat.le_refl _) _
 have HXB : Aside0 (wB.heap[w1.heap.size]? = some (.cells #[.slice A0 0 c0, .slice A1 1 c1, .string wBlock, .slice A3 1 c3, .bool false] 26 (0, 0))) := ⟨by rw [hwB]; exact setRow_heap _ _ _ _ _ _ (blk_new w1 (.cells #[.slice none 0 0, .slice none 0 0, .string ⟨#[]⟩, .slice none 0 0, .bool false] 26))⟩
 have HPB := Aside0.mk (hP1.below hbB)
 have HBB : Aside0 (Below w.heap.size w wB) := ⟨hb1.trans (hbB.mono hb1.size)⟩
 have HWB := Aside0.mk hwB
 have h2 := read_calls tx2 wB
 unfold ReadQ at h2
 rw [polA_2] at h2
 have H2 := Aside0.mk h2
 clear hP1 hb1 e1 hwB hbB h2 H1
 go_upto_region 2 with (refine wpList_store_row rfl 26 _ _ rfl w1.heap.size #[.slice A0 0 c0, .slice A1 1 c1, .string wBlock, .slice A3 1 c3, .bool false] rfl rfl 26 #[.slice none 0 0, .slice none 0 0, .string ⟨#[]⟩, .slice none 0 0, .bool false] (blk_new _ _) size_pol rfl (by simp [Value.oneCell']) ?_)
 rw [← HWB.out]
 go_wp2_with fail
 refine H2.out.mono ?_
 rintro e w2 ⟨B0, B1, B3, d0, d1, d3, rfl, hP2, hb2⟩
 have e2 : polS B0 B1 B3 d0 d1 d3 st2 = .agg #[.slice B0 0 d0, .slice B1 1 d1, .string wBlock, .slice B3 1 d3, .bool false] := rfl
 rw [e2]
 dsimp only
 obtain ⟨wC, hwC⟩ : ∃ wC, wC = (w2.alloc (.cells #[.slice none 0 0, .slice none 0 0, .string ⟨#[]⟩, .slice none 0 0, .bool false] 26)).setRow w2.heap.size #[.slice B0 0 d0, .slice B1 1 d1, .string wBlock, .slice B3 1 d3, .bool false] := ⟨_, rfl⟩
 have hbC : Below w2.heap.size w2 wC := by rw [hwC]; exact below_setRow (below_alloc (Below.refl _ _) _) (Nat.le_refl _) _
 have HXC : Aside0 (wC.heap[w2.heap.size]? = some (.cells #[.slice B0 0 d0, .slice B1 1 d1, .string wBlock, .slice B3 1 d3, .bool false] 26 (0, 0))) := ⟨by rw [hwC]; exact setRow_heap _ _ _ _ _ _ (blk_new w2 (.cells #[.slice none 0 0, .slice none 0 0, .string ⟨#[]⟩, .slice none 0 0, .bool false] 26))⟩
 have HPC := Aside0.mk (hP2.below hbC)
 have hb3 : Below wB.heap.size wB wC := hb2.trans (hbC.mono hb2.size)
 have HP1 := Aside0.mk (HPB.out.below hb3)
 have HX1 : Aside0 (wC.heap[w1.heap.size]? = some (.cells #[.slice A0 0 c0, .slice A1 1 c1, .string wBlock, .slice A3 1 c3, .bool false] 26 (0, 0))) := ⟨blk_below HXB.out hb3⟩
 have HBC : Aside0 (Below w.heap.size w wC) := ⟨HBB.out.trans (hb3.mono HBB.out.size)⟩
 have HWC := Aside0.mk hwC
 clear hP2 hb2 e2 hwC hbC hb3 H2 HPB HXB HBB HWB
 go_upto_region 3 with (refine wpList_store_row rfl 26 _ _ rfl w2.heap.size #[.slice B0 0 d0, .slice B1 1 d1, .string wBlock, .slice B3 1 d3, .bool false] rfl rfl 26 #[.slice none 0 0, .slice none 0 0, .string ⟨#[]⟩, .slice none 0 0, .bool false] (blk_new _ _) size_pol rfl (by simp [Value.oneCell']) ?_)
 rw [← HWC.out]
 have x0 : wC.cell? ⟨w1.heap.size, 0, none⟩ = some (.slice A0 0 c0) := blk_cell HX1.out 0
 have x1 : wC.cell? ⟨w1.heap.size, 1, none⟩ = some (.slice A1 1 c1) := blk_cell HX1.out 1
 have x2 : wC.cell? ⟨w1.heap.size, 2, none⟩ = some (.string wBlock) := blk_cell HX1.out 2
 have x3 : wC.cell? ⟨w1.heap.size, 3, none⟩ = some (.slice A3 1 c3) := blk_cell HX1.out 3
 have x4 : wC.cell? ⟨w1.heap.size, 4, none⟩ = some (.bool false) := blk_cell HX1.out 4
 go_wp2_with fail
 refine (chk_awake1 A0 A1 A3 c0 c1 c3 wC HP1.out (HLD.out.below HBC.out)).mono ?_
 rintro e w4 ⟨rfl, hb4⟩
 dsimp only
 have HB4 : Aside0 (Below w.heap.size w w4) := ⟨HBC.out.trans (hb4.mono HBC.out.size)⟩
 have HX4 : Aside0 (w4.heap[w2.heap.size]? = some (.cells #[.slice B0 0 d0, .slice B1 1 d1, .string wBlock, .slice B3 1 d3, .bool false] 26 (0, 0))) := ⟨blk_below HXC.out hb4⟩
 have HP4 := Aside0.mk (HPC.out.below hb4)
 have y0 : w4.cell? ⟨w2.heap.size, 0, none⟩ = some (.slice B0 0 d0) := blk_cell HX4.out 0
 have y1 : w4.cell? ⟨w2.heap.size, 1, none⟩ = some (.slice B1 1 d1) := blk_cell HX4.out 1
 have y2 : w4.cell? ⟨w2.heap.size, 2, none⟩ = some (.string wBlock) := blk_cell HX4.out 2
 have y3 : w4.cell? ⟨w2.heap.size, 3, none⟩ = some (.slice B3 1 d3) := blk_cell HX4.out 3
 have y4 : w4.cell? ⟨w2.heap.size, 4, none⟩ = some (.bool false) := blk_cell HX4.out 4
 clear hb4 x0 x1 x2 x3 x4 HP1 HX1 HPC HXC HWC HBC
 go_wp2_with fail
 refine (chk_awake2 B0 B1 B3 d0 d1 d3 w4 HP4.out (HLD.out.below HB4.out)).mono ?_
 rintro e w5 ⟨rfl, hb5⟩
 dsimp only
 have HB5 : Aside0 (Below w.heap.size w w5) := ⟨HB4.out.trans (hb5.mono HB4.out.size)⟩
 have HX5 : Aside0 (w5.heap[w2.heap.size]? = some (.cells #[.slice B0 0 d0, .slice B1 1 d1, .string wBlock, .slice B3 1 d3, .bool false] 26 (0, 0))) := ⟨blk_below HX4.out hb5⟩
 have HP5 := Aside0.mk (HP4.out.below hb5)
 have z0 : w5.cell? ⟨w2.heap.size, 0, none⟩ = some (.slice B0 0 d0) := blk_cell HX5.out 0
 have z1 : w5.cell? ⟨w2.heap.size, 1, none⟩ = some (.slice B1 1 d1) := blk_cell HX5.out 1
 have z2 : w5.cell? ⟨w2.heap.size, 2, none⟩ = some (.string wBlock) := blk_cell HX5.out 2
 have z3 : w5.cell? ⟨w2.heap.size, 3, none⟩ = some (.slice B3 1 d3) := blk_cell HX5.out 3
 have z4 : w5.cell? ⟨w2.heap.size, 4, none⟩ = some (.bool false) := blk_cell HX5.out 4
 clear hb5 y0 y1 y2 y3 y4 HP4 HX4
 go_wp2_with fail
 refine (atoms_awake B0 B1 B3 d0 d1 d3 w5 HP5.out).mono ?_
 rintro e w6 ⟨A6, c6, rfl, hb6⟩
 dsimp only
 have HB6 : Aside0 (Below w.heap.size w w6) := ⟨HB5.out.trans (hb6.mono HB5.out.size)⟩
 clear hb6 z0 z1 z2 z3 z4 HP5 HX5
 go_wp2
 go_ret
 exact ⟨rfl, HB6.out⟩
end Go.Proofs.YtdlahgamdigkhaaDoor.Sn
namespace Go.Proofs.YtdlahgamdigkhaaDoor.Sn
open Go.RowKit Go.Proofs.YtdlahgamdigkhaaDoor.Pr Go.Proofs.YtdlahgamdigkhaaDoorW.PrintWords Go.Proofs.YtdlahgamdigkhaaDoorW.PrintLast Go.Proofs.YtdlahgamdigkhaaDoorW.PrintMore Go.Proofs.YtdlahgamdigkhaaDoor.Lx
open Go.Proofs.YtdlahgamdigkhaaDoor.Ps hiding Tk lowB
open Go.Proofs.YtdlahgamdigkhaaDoor.Pu
set_option maxHeartbeats 16000000
set_option maxRecDepth 100000
theorem soundread_calls (a0 : ByteArray) (w : World) (hL : Laid w) : Calls Tryd.prog 4 #[.string a0] w fun e w' => e = .returned (.bool true) ∧ Below w.heap.size w w' := by
 have h1 := read_calls a0 w
 unfold ReadQ at h1
 have HLD := Aside0.mk hL
 clear hL
 cases hp : polA a0 with
 | error f =>
  rw [hp] at h1
  have H1 := Aside0.mk h1
  clear h1 hp
  go_enter Tryd.func4, Tryd.ntmps4
  go_wp2_with fail
  refine H1.out.mono ?_
  rintro e w1 ⟨rfl, hb1⟩
  unfold polV
  dsimp only
  obtain ⟨wB, hwB⟩ : ∃ wB, wB = (w1.alloc (.cells #[.slice none 0 0, .slice none 0 0, .string ⟨#[]⟩, .slice none 0 0, .bool false] 26)).setRow w1.heap.size #[.slice none 0 0, .slice none 0 0, .string ⟨#[]⟩, .slice none 0 0, .bool false] := ⟨_, rfl⟩
  have hbB : Below w1.heap.size w1 wB := by rw [hwB]; exact below_setRow (below_alloc (Below.refl _ _) _) (Nat.le_refl _) _
  have HBB : Aside0 (Below w.heap.size w wB) := ⟨hb1.trans (hbB.mono hb1.size)⟩
  have HWB := Aside0.mk hwB
  clear hb1 hbB hwB H1
  go_upto_region 2 with (refine wpList_store_row rfl 26 _ _ rfl w1.heap.size #[.slice none 0 0, .slice none 0 0, .string ⟨#[]⟩, .slice none 0 0, .bool false] rfl rfl 26 #[.slice none 0 0, .slice none 0 0, .string ⟨#[]⟩, .slice none 0 0, .bool false] (blk_new _ _) size_pol rfl (by simp [Value.oneCell']) ?_)
  rw [← HWB.out]
  go_wp2_with fail
  refine (awake_calls wB (HLD.out.below HBB.out)).mono ?_
  rintro e w2 ⟨rfl, hb2⟩
  dsimp only
  have HB2 : Aside0 (Below w.heap.size w w2) := ⟨HBB.out.trans (hb2.mono HBB.out.size)⟩
  clear hb2
  go_wp2
  go_ret
  exact ⟨rfl, HB2.out⟩
 | ok st =>
  rw [hp] at h1
  have H1 := Aside0.mk h1
  have HOK := Aside0.mk (read_pol hp)
  have HCD := Aside0.mk (read_cond hp)
  clear h1 hp
  go_enter Tryd.func4, Tryd.ntmps4
  go_wp2_with fail
  refine H1.out.mono ?_
  rintro e w1 ⟨A0, A1, A3, c0, c1, c3, rfl, hP1, hb1⟩
  unfold polS polV
  dsimp only
  obtain ⟨n0, hn0⟩ : ∃ n, n = st.csp.length := ⟨_, rfl⟩
  obtain ⟨n1, hn1⟩ : ∃ n, n = st.shares.length := ⟨_, rfl⟩
  obtain ⟨n3, hn3⟩ : ∃ n, n = st.rules.length := ⟨_, rfl⟩
  obtain ⟨mx, hmx⟩ : ∃ m, m = st.mixed := ⟨_, rfl⟩
  obtain ⟨al, hal⟩ : ∃ m, m = st.allow := ⟨_, rfl⟩
  rw [← hn0, ← hn1, ← hn3, ← hmx, ← hal]
  obtain ⟨wB, hwB⟩ : ∃ wB, wB = (w1.alloc (.cells #[.slice none 0 0, .slice none 0 0, .string ⟨#[]⟩, .slice none 0 0, .bool false] 26)).setRow w1.heap.size #[.slice A0 n0 c0, .slice A1 n1 c1, .string mx, .slice A3 n3 c3, .bool al] := ⟨_, rfl⟩
  have hbB : Below w1.heap.size w1 wB := by rw [hwB]; exact below_setRow (below_alloc (Below.refl _ _) _) (Nat.le_refl _) _
  have HXB : Aside0 (wB.heap[w1.heap.size]? = some (.cells #[.slice A0 n0 c0, .slice A1 n1 c1, .string mx, .slice A3 n3 c3, .bool al] 26 (0, 0))) := ⟨by rw [hwB]; exact setRow_heap _ _ _ _ _ _ (blk_new w1 (.cells #[.slice none 0 0, .slice none 0 0, .string ⟨#[]⟩, .slice none 0 0, .bool false] 26))⟩
  have HF : Aside0 (Kd.F k41 wB (fun _ => True) A3 st.rules.length st.rules) := ⟨(hP1.below hbB).f3⟩
  have HBB : Aside0 (Below w.heap.size w wB) := ⟨hb1.trans (hbB.mono hb1.size)⟩
  have HN3 := Aside0.mk hn3
  have HWB := Aside0.mk hwB
  clear hP1 hb1 hbB hwB H1 hn0 hn1 hn3 hmx hal
  obtain ⟨gp, hgp⟩ : ∃ gp, gp = w1.heap.size := ⟨_, rfl⟩
  go_upto_region 2 with (refine wpList_store_row rfl 26 _ _ rfl w1.heap.size #[.slice A0 n0 c0, .slice A1 n1 c1, .string mx, .slice A3 n3 c3, .bool al] rfl rfl 26 #[.slice none 0 0, .slice none 0 0, .string ⟨#[]⟩, .slice none 0 0, .bool false] (blk_new _ _) size_pol rfl (by simp [Value.oneCell']) ?_)
  rw [← HWB.out, ← hgp]
  rw [← hgp] at HXB
  clear hgp HWB
  go_wp2
  go_loopg [5] st.rules.length (fun gk v5 wr => ∃ (i : Nat), v5 = .int .i64 i ∧ Aside0 (i ≤ st.rules.length) ∧ Aside0 (st.rules.length - i ≤ gk) ∧ Aside0 (Below wB.heap.size wB wr))
  case atStart => exact ⟨0, rfl, ⟨Nat.zero_le _⟩, ⟨Nat.sub_le _ _⟩, ⟨Below.refl _ _⟩⟩
  case round =>
   obtain ⟨i, rfl, HI, HGK, HB⟩ := hrel
   have HXR : Aside0 (wr.heap[gp]? = some (.cells #[.slice A0 n0 c0, .slice A1 n1 c1, .string mx, .slice A3 n3 c3, .bool al] 26 (0, 0))) := ⟨blk_below HXB.out HB.out⟩
   have t3 : wr.cell? ⟨gp, 3, none⟩ = some (.slice A3 n3 c3) := blk_cell HXR.out 3
   by_cases hi : i < n3
   ·have l1 : decide (i < n3) = true := decide_eq_true hi
    have l2 : decide ((i : Int) < (n3 : Int)) = true := decide_eq_true (by omega)
    have l3 : (i : Int) < (n3 : Int) := by omega
    have HIL : Aside0 (i < st.rules.length) := ⟨by rw [← HN3.out]; exact hi⟩
    have hib : (i : Int) ≤ 1000000 := by have := conds_len HOK.out.hz; have := HIL.out; omega
    have hip : (0 : Int) ≤ (i : Int) := by omega
    obtain ⟨ad, A4, c4, hA, q0, q1, q2, q3, q4, hl4, hC4⟩ := at_T41 (Kd.F_now HF.out) (i : Int) (by omega) (by have := HIL.out; omega)
    have hA2 : A3 = some ad := hA
    subst hA2
    obtain ⟨x, hx⟩ : ∃ x, x = rd_T41 st.rules (i : Int) := ⟨_, rfl⟩
    have HX : Aside0 (x = st.rules[i]'HIL.out) := ⟨by rw [hx]; have := HIL.out; simp [rd_T41, this]⟩
    rw [← hx] at q0 q1 q2 q3 q4 hl4 hC4
    simp only [Int.toNat_natCast] at q0 q1 q2 q3 q4
    replace q0 := (HB.out.cell (World.block_lt_of_cell? wB _ q0)).trans q0
    replace q1 := (HB.out.cell (World.block_lt_of_cell? wB _ q1)).trans q1
    replace q2 := (HB.out.cell (World.block_lt_of_cell? wB _ q2)).trans q2
    replace q3 := (HB.out.cell (World.block_lt_of_cell? wB _ q3)).trans q3
    replace q4 := (HB.out.cell (World.block_lt_of_cell? wB _ q4)).trans q4
    have hmem : x ∈ st.rules := by rw [HX.out]; exact List.getElem_mem _
    have hct := HCD.out x hmem
    obtain ⟨c, hc⟩ : ∃ c, c = x.f1 := ⟨_, rfl⟩
    rw [← hc] at q1 q2 q3 q4 hl4 hC4 hct
    obtain ⟨m4, hm⟩ : ∃ m4, m4 = c.f2.length := ⟨_, rfl⟩
    rw [← hm] at q4
    have hsp := conds_split HIL.out
    rw [← HX.out, ← hc] at hsp
    have h5 := cond_calls c (by have h2 := HOK.out.hz; rw [hsp, size_app, sizeL] at h2; omega) A4 c4 wr (Kd.C_below hC4 HB.out) hl4
    unfold cdV at h5
    rw [← hm, hct] at h5
    have H5 := Aside0.mk h5
    clear h5 hA hx hc hm hl4 hC4 hi hsp hmem hct
    obtain ⟨xa, hxa⟩ : ∃ xa, xa = x.f0 := ⟨_, rfl⟩
    obtain ⟨x0, hx0⟩ : ∃ x0, x0 = c.f0 := ⟨_, rfl⟩
    obtain ⟨x1, hx1⟩ : ∃ x1, x1 = c.f1.f0 := ⟨_, rfl⟩
    obtain ⟨x2, hx2⟩ : ∃ x2, x2 = c.f1.f1 := ⟨_, rfl⟩
    rw [← hxa] at q0
    rw [← hx0] at q1 H5
    rw [← hx1] at q2 H5
    rw [← hx2] at q3 H5
    clear hxa hx0 hx1 hx2
    go_wp2_with fail
    refine H5.out.mono ?_
    rintro e w6 ⟨rfl, hb6⟩
    dsimp only
    have HB6 : Aside0 (Below wB.heap.size wB w6) := ⟨HB.out.trans (hb6.mono HB.out.size)⟩
    clear hb6 H5 q0 q1 q2 q3 q4 t3 HB HXR
    go_wp2
    go_roundg (st.rules.length - (i + 1))
    case measure => have := HGK.out; have := HIL.out; omega
    case rel => exact ⟨i + 1, by first | rfl | go_num, ⟨HIL.out⟩, ⟨Nat.le_refl _⟩, HB6⟩
   ·have l1 : decide (i < n3) = false := decide_eq_false hi
    have l2 : decide ((i : Int) < (n3 : Int)) = false := decide_eq_false (by omega)
    have l3 : ¬ (i : Int) < (n3 : Int) := by omega
    have HBW : Aside0 (Below w.heap.size w wr) := ⟨HBB.out.trans (HB.out.mono HBB.out.size)⟩
    clear hi
    go_wp2_with fail
    refine (awake_calls wr (HLD.out.below HBW.out)).mono ?_
    rintro e w2 ⟨rfl, hb2⟩
    dsimp only
    have HB2 : Aside0 (Below w.heap.size w w2) := ⟨HBW.out.trans (hb2.mono HBW.out.size)⟩
    clear hb2
    go_wp2
    go_ret
    exact ⟨rfl, HB2.out⟩
end Go.Proofs.YtdlahgamdigkhaaDoor.Sn
