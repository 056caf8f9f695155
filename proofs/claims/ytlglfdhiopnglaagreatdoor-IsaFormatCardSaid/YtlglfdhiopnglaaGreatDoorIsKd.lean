/-
  The reference 47 as text: the kind of a type.
-/
import Derived.Test.YtlglfdhiopnglaaGreatDoorIsLn
import Derived.Test.YtlglfdhiopnglaaGreatDoorGc
import Derived.Test.YtlglfdhiopnglaaGreatDoorMd
namespace Go.Proofs.YtlglfdhiopnglaaGreatDoor
open Go.ChangeShapes Go.WideShapes Go.ChangeAt Go.RowKit
set_option linter.unusedVariables false
set_option linter.unusedSimpArgs false
set_option maxRecDepth 100000

/-- A new row, in a region whose operations may lean on it. -/
theorem wpMd_row {P : Program} {ops : Array Oper} {md : Region.Mode} {w : World} {M : FuncId → Array Value → Value → World → Prop} {L : Act → Facts → Prop} (hL : AntiF w L) {k : Nat} {o : Oper} {rest : List Oper} {a : Act} {S : Facts} (cs : Array Value) (t : TypeId) (m : Nat)
    (hw : Region.wanted o (yielded ops a.tmps) = true) (hrun : ∀ x, (execOp a.eval o).run P x = .ok (.value (.slice (some ⟨x.heap.size, 0, none⟩) m m)) (x.alloc (.cells cs t (0, 0))))
    (h : ∀ b, w.heap.size ≤ b → ∀ S', More S S' → (∀ x, S' k x → x.heap[b]? = some (.cells cs t (0, 0))) → wpMd P md ops M w L (k + 1) rest (a.put o.dst (.slice (some ⟨b, 0, none⟩) m m)) S') : wpMd P md ops M w L k (o :: rest) a S := by
  refine wpMd_any hL (fun v y => ∃ b, v = .slice (some ⟨b, 0, none⟩) m m ∧ w.heap.size ≤ b ∧ y.heap[b]? = some (.cells cs t (0, 0))) (fun v x y ⟨b, h1, h2, h3⟩ hu => ⟨b, h1, h2, by rw [hu.heap b (Array.getElem?_eq_some_iff.1 h3).1]; exact h3⟩) hw
    (fun x hx _ => ⟨_, _, hrun x, (Up.refl x).alloc _, x.heap.size, rfl, hx.size, heap_alloc_new x _⟩) (fun v ⟨y, _, b, h1, h2, _⟩ => ?_)
  subst h1
  refine wpMd_more hL _ _ _ _ _ (More.upd (fun _ _ h => h) k (fun x ⟨⟨b', h4, h5, h6⟩, _⟩ => ?_)) (h b h2 _ (more_upd _ _ _) fun _ hx => upd_new hx)
  cases h4
  exact h6
/-- A value read out of what the operations ahead have made. -/
theorem wpMd_readG {P : Program} {ops : Array Oper} {md : Region.Mode} {w : World} {M : FuncId → Array Value → Value → World → Prop} {L : Act → Facts → Prop} (hL : AntiF w L) {k : Nat} {o : Oper} {rest : List Oper} {a : Act} {S : Facts} (u : Value)
    (hw : Region.wanted o (yielded ops a.tmps) = true) (hrun : ∀ x, Up w x → Deps md o S x → (execOp a.eval o).run P x = .ok (.value u) x)
    (h : ∀ S', More S S' → wpMd P md ops M w L (k + 1) rest (a.put o.dst u) S') : wpMd P md ops M w L k (o :: rest) a S :=
  wpMd_any hL (fun v _ => v = u) (fun _ _ _ h _ => h) hw (fun x hx hd => ⟨u, x, hrun x hx hd, Up.refl x, rfl⟩) fun v ⟨_, _, hv⟩ => by subst hv; exact h _ (more_upd _ _ _)
def kdM (f : FuncId) (args : Array Value) (v : Value) (_ : World) : Prop := ∃ n, args = #[.int .i64 n] ∧ v = .string (bst (Lib.itoa n))
theorem kdM_up (f : FuncId) (args : Array Value) (v : Value) (x y : World) (h : kdM f args v x) (_ : Up x y) : kdM f args v y := h
theorem kdM_dig (n : Int) (hn : R64 n) (x : World) : Calls Tryz.prog 60 #[.int .i64 n] x fun e x' => ∃ v, e = .returned v ∧ Up x x' ∧ kdM 60 #[.int .i64 n] v x' :=
  (r01_Digits n hn x).mono fun e x' ⟨h1, h2⟩ => ⟨_, h1, h2, n, rfl, rfl⟩

set_option maxHeartbeats 8000000 in
theorem r47_kind (t : Typ) (hr : TyR t) (ht : typB t = true) (w : World) : Calls Tryz.prog 61 #[typV t] w fun e w' => e = .returned (.string (bst (typL t))) ∧ Up w w' := by
  obtain ⟨k, b, f, r, o⟩ := t
  obtain ⟨T, hT⟩ : ∃ T, typL (k, b, f, r, o) = T := ⟨_, rfl⟩
  rw [hT]
  unfold typL at hT
  dsimp only at hT
  have hb : R64 b := hr 1
  have hf : R64 f := hr 2
  have HTT := Lib.hid hT
  clear hT
  have hc : k = 1 ∨ k = 3 ∨ (k = 2 ∧ 1 ≤ r ∧ r ≤ 4 ∧ (o = 1 ∨ o = 2)) := by
    simp only [typB, plainB, fixB, Bool.or_eq_true, Bool.and_eq_true, decide_eq_true_eq] at ht; omega
  clear ht hr
  have HU : Hid (Up w (w.alloc (.cells #[.int .i64 k, .int .i64 b, .int .i64 f, .int .i64 r, .int .i64 o] 40))) := Lib.hid ((Up.refl w).alloc _)
  have B0 : Hid (BoxC (w.alloc (.cells #[.int .i64 k, .int .i64 b, .int .i64 f, .int .i64 r, .int .i64 o] 40)) w.heap.size 40 #[.int .i64 k, .int .i64 b, .int .i64 f, .int .i64 r, .int .i64 o]) := Lib.hid (BoxC.new w _ _)
  rcases hc with h1 | h3 | ⟨h2, hr1, hr4, ho⟩
  · have HE : Hid (T = [102, 114, 97, 99]) := Lib.hid (by rw [← HTT.out, if_pos h1])
    subst h1
    clear HTT
    go_enter Tryz.func61, Tryz.ntmps61
    go_wp2
    go_ret
    exact ⟨ret_str (by rw [HE.out]; rfl), HU.out⟩
  · have HE : Hid (T = [105, 110, 116]) := Lib.hid (by rw [← HTT.out, if_neg (by omega), if_pos h3])
    subst h3
    clear HTT
    go_enter Tryz.func61, Tryz.ntmps61
    go_wp2
    go_ret
    exact ⟨ret_str (by rw [HE.out]; rfl), HU.out⟩
  subst h2
  have HE : Hid (fixL (Lib.itoa b) (Lib.itoa f) (rndL r) (ovrL o) = T) := Lib.hid (by rw [← HTT.out, if_neg (by decide), if_neg (by decide)])
  clear HTT
  have lb := itoa_len hb
  have lf := itoa_len hf
  have HDB := Lib.hid (fun x => kdM_dig b hb x)
  have HDF := Lib.hid (fun x => kdM_dig f hf x)
  clear hb hf
  obtain ⟨bl, hbl⟩ : ∃ l, Lib.itoa b = l := ⟨_, rfl⟩
  obtain ⟨fl, hfl⟩ : ∃ l, Lib.itoa f = l := ⟨_, rfl⟩
  have HBL := Lib.hid hbl
  have HFL := Lib.hid hfl
  rw [hbl] at HE lb
  rw [hfl] at HE lf
  clear hbl hfl
  rcases (by omega : r = 1 ∨ r = 2 ∨ r = 3 ∨ r = 4) with rfl | rfl | rfl | rfl <;> rcases ho with rfl | rfl
  · have k1 := cat (A := ⟨#[102, 105, 120, 32]⟩) (B := bst bl) (a := [102, 105, 120, 32]) rfl rfl rfl (by decide) (by omega)
    obtain ⟨s1, hs1⟩ : ∃ s, [102, 105, 120, 32] ++ bl = s := ⟨_, rfl⟩
    have l1 : s1.length ≤ 100 := by rw [← hs1]; simp; omega
    have k2 := cat (A := bst s1) (B := ⟨#[32]⟩) (b := [32]) rfl rfl rfl (by omega) (by decide)
    obtain ⟨s2, hs2⟩ : ∃ s, s1 ++ [32] = s := ⟨_, rfl⟩
    have l2 : s2.length ≤ 101 := by rw [← hs2]; simp; omega
    have k3 := cat (A := bst s2) (B := bst fl) rfl rfl rfl (by omega) (by omega)
    obtain ⟨s3, hs3⟩ : ∃ s, s2 ++ fl = s := ⟨_, rfl⟩
    have l3 : s3.length ≤ 200 := by rw [← hs3]; simp; omega
    have k4 := cat (A := bst s3) (B := ⟨#[32]⟩) (b := [32]) rfl rfl rfl (by omega) (by decide)
    obtain ⟨s4, hs4⟩ : ∃ s, s3 ++ [32] = s := ⟨_, rfl⟩
    have l4 : s4.length ≤ 201 := by rw [← hs4]; simp; omega
    have k5 := cat (A := bst s4) (B := ⟨#[102, 108, 111, 111, 114]⟩) (b := [102, 108, 111, 111, 114]) rfl rfl rfl (by omega) (by decide)
    obtain ⟨s5, hs5⟩ : ∃ s, s4 ++ [102, 108, 111, 111, 114] = s := ⟨_, rfl⟩
    have l5 : s5.length ≤ 300 := by rw [← hs5]; simp; omega
    have k6 := cat (A := bst s5) (B := ⟨#[32]⟩) (b := [32]) rfl rfl rfl (by omega) (by decide)
    obtain ⟨s6, hs6⟩ : ∃ s, s5 ++ [32] = s := ⟨_, rfl⟩
    have l6 : s6.length ≤ 301 := by rw [← hs6]; simp; omega
    have k7 := cat (A := bst s6) (B := ⟨#[115, 97, 116]⟩) (b := [115, 97, 116]) rfl rfl rfl (by omega) (by decide)
    have HS : Hid (s6 ++ [115, 97, 116] = T) := Lib.hid (by rw [← HE.out, ← hs6, ← hs5, ← hs4, ← hs3, ← hs2, ← hs1]; rfl)
    rw [hs1] at k1
    rw [hs2] at k2
    rw [hs3] at k3
    rw [hs4] at k4
    rw [hs5] at k5
    rw [hs6] at k6
    rw [HS.out] at k7
    clear hs1 hs2 hs3 hs4 hs5 hs6 l1 l2 l3 l4 l5 l6 lb lf HE
    go_enter Tryz.func61, Tryz.ntmps61
    go_upto_region 5 with (fail)
    generalize w.alloc (.cells #[.int .i64 2, .int .i64 b, .int .i64 f, .int .i64 1, .int .i64 1] 40) = y at *
    obtain ⟨c0, c1, c2, c3, c4⟩ := B0.out.five
    have hs0 := B0.out.lt
    refine wp_region_md_all kdM (by kernel_rfl) (by kernel_rfl) ?_
    (refine wpMd_quietG antiF_post (by kernel_rfl) ?_; intro S hm hk; clear hm hk; go_big_quiet_step (fail); refine wpQuiet_nil ?_)
    (refine wpMd_quietG antiF_post (by kernel_rfl) ?_; intro S hm hk; clear hm hk; go_big_quiet_step (fail); refine wpQuiet_nil ?_)
    refine wpMd_enterG antiF_post 60 #[.int .i64 b] (kdM_up _ _) (by kernel_rfl) (fun x => by go_simp) (fun x hx hd => HDB.out x) ?_
    rintro v ⟨y', hy', n', hn1, rfl⟩ S hm hk
    clear hm hk
    cases hn1
    rw [HBL.out]
    clear y' hy'
    simp only [Act.put, List.setIfInBounds_toArray, List.set_cons_succ, List.set_cons_zero]
    (refine wpMd_quietG antiF_post (by kernel_rfl) ?_; intro S hm hk; clear hm hk; go_big_quiet_step (fail); refine wpQuiet_nil ?_)
    (refine wpMd_quietG antiF_post (by kernel_rfl) ?_; intro S hm hk; clear hm hk; go_big_quiet_step (fail); refine wpQuiet_nil ?_)
    (refine wpMd_quietG antiF_post (by kernel_rfl) ?_; intro S hm hk; clear hm hk; go_big_quiet_step (fail); refine wpQuiet_nil ?_)
    (refine wpMd_quietG antiF_post (by kernel_rfl) ?_; intro S hm hk; clear hm hk; go_big_quiet_step (fail); refine wpQuiet_nil ?_)
    refine wpMd_enterG antiF_post 60 #[.int .i64 f] (kdM_up _ _) (by kernel_rfl) (fun x => by go_simp) (fun x hx hd => HDF.out x) ?_
    rintro v ⟨y', hy', n', hn1, rfl⟩ S hm hk
    clear hm hk
    cases hn1
    rw [HFL.out]
    clear y' hy'
    simp only [Act.put, List.setIfInBounds_toArray, List.set_cons_succ, List.set_cons_zero]
    (refine wpMd_quietG antiF_post (by kernel_rfl) ?_; intro S hm hk; clear hm hk; go_big_quiet_step (fail); refine wpQuiet_nil ?_)
    (refine wpMd_quietG antiF_post (by kernel_rfl) ?_; intro S hm hk; clear hm hk; go_big_quiet_step (fail); refine wpQuiet_nil ?_)
    refine wpMd_row antiF_post #[.string { data := #[102, 108, 111, 111, 114] }, .string { data := #[99, 101, 105, 108] }, .string { data := #[122, 101, 114, 111] }, .string { data := #[101, 118, 101, 110] }] 9 4 (by kernel_rfl) (fun x => by go_simp) ?_
    rintro bk hbk S hm hk
    have HF0 : Hid (∀ x, S 10 x → x.heap[bk]? = some (.cells #[.string { data := #[102, 108, 111, 111, 114] }, .string { data := #[99, 101, 105, 108] }, .string { data := #[122, 101, 114, 111] }, .string { data := #[101, 118, 101, 110] }] 9 (0, 0))) := Lib.hid hk
    clear hm hk hbk
    simp only [Act.put, List.setIfInBounds_toArray, List.set_cons_succ, List.set_cons_zero]
    (refine wpMd_quietG antiF_post (by kernel_rfl) ?_; intro S hm hk; replace HF0 := Lib.hid (fun x hx => HF0.out x (hm _ x hx)); clear hm hk; go_big_quiet_step (fail); refine wpQuiet_nil ?_)
    (refine wpMd_quietG antiF_post (by kernel_rfl) ?_; intro S hm hk; replace HF0 := Lib.hid (fun x hx => HF0.out x (hm _ x hx)); clear hm hk; go_big_quiet_step (fail); refine wpQuiet_nil ?_)
    (refine wpMd_quietG antiF_post (by kernel_rfl) ?_; intro S hm hk; replace HF0 := Lib.hid (fun x hx => HF0.out x (hm _ x hx)); clear hm hk; go_big_quiet_step (fail); refine wpQuiet_nil ?_)
    (refine wpMd_quietG antiF_post (by kernel_rfl) ?_; intro S hm hk; have HF : Hid (∀ x, S 14 x → x.heap[bk]? = some (.cells #[.string { data := #[102, 108, 111, 111, 114] }, .string { data := #[99, 101, 105, 108] }, .string { data := #[122, 101, 114, 111] }, .string { data := #[101, 118, 101, 110] }] 9 (0, 0))) := Lib.hid (fun x hx => HF0.out x (hk x hx { on := 10, ground := Ground.data } (by simp) rfl)); clear hm hk HF0; go_big_quiet_step (fail); refine wpQuiet_nil ?_)
    refine wpMd_readG antiF_post (.string { data := #[102, 108, 111, 111, 114] }) (by kernel_rfl) (fun x hx hd => by
      have hh := HF.out x (hd { on := 14, ground := Ground.data } (by simp) rfl)
      have cc : x.cell? ⟨bk, 0, none⟩ = some (.string { data := #[102, 108, 111, 111, 114] }) := cell_of_row _ _ _ _ _ _ hh
      clear hd hh
      go_simp) ?_
    intro S hm
    clear hm HF
    simp only [Act.put, List.setIfInBounds_toArray, List.set_cons_succ, List.set_cons_zero]
    (refine wpMd_quietG antiF_post (by kernel_rfl) ?_; intro S hm hk; clear hm hk; go_big_quiet_step (fail); refine wpQuiet_nil ?_)
    (refine wpMd_quietG antiF_post (by kernel_rfl) ?_; intro S hm hk; clear hm hk; go_big_quiet_step (fail); refine wpQuiet_nil ?_)
    refine wpMd_row antiF_post #[.string { data := #[115, 97, 116] }, .string { data := #[119, 114, 97, 112] }] 9 2 (by kernel_rfl) (fun x => by go_simp) ?_
    rintro bk hbk S hm hk
    have HF0 : Hid (∀ x, S 18 x → x.heap[bk]? = some (.cells #[.string { data := #[115, 97, 116] }, .string { data := #[119, 114, 97, 112] }] 9 (0, 0))) := Lib.hid hk
    clear hm hk hbk
    simp only [Act.put, List.setIfInBounds_toArray, List.set_cons_succ, List.set_cons_zero]
    (refine wpMd_quietG antiF_post (by kernel_rfl) ?_; intro S hm hk; replace HF0 := Lib.hid (fun x hx => HF0.out x (hm _ x hx)); clear hm hk; go_big_quiet_step (fail); refine wpQuiet_nil ?_)
    (refine wpMd_quietG antiF_post (by kernel_rfl) ?_; intro S hm hk; replace HF0 := Lib.hid (fun x hx => HF0.out x (hm _ x hx)); clear hm hk; go_big_quiet_step (fail); refine wpQuiet_nil ?_)
    (refine wpMd_quietG antiF_post (by kernel_rfl) ?_; intro S hm hk; replace HF0 := Lib.hid (fun x hx => HF0.out x (hm _ x hx)); clear hm hk; go_big_quiet_step (fail); refine wpQuiet_nil ?_)
    (refine wpMd_quietG antiF_post (by kernel_rfl) ?_; intro S hm hk; have HF : Hid (∀ x, S 22 x → x.heap[bk]? = some (.cells #[.string { data := #[115, 97, 116] }, .string { data := #[119, 114, 97, 112] }] 9 (0, 0))) := Lib.hid (fun x hx => HF0.out x (hk x hx { on := 18, ground := Ground.data } (by simp) rfl)); clear hm hk HF0; go_big_quiet_step (fail); refine wpQuiet_nil ?_)
    refine wpMd_readG antiF_post (.string { data := #[115, 97, 116] }) (by kernel_rfl) (fun x hx hd => by
      have hh := HF.out x (hd { on := 22, ground := Ground.data } (by simp) rfl)
      have cc : x.cell? ⟨bk, 0, none⟩ = some (.string { data := #[115, 97, 116] }) := cell_of_row _ _ _ _ _ _ hh
      clear hd hh
      go_simp) ?_
    intro S hm
    clear hm HF
    simp only [Act.put, List.setIfInBounds_toArray, List.set_cons_succ, List.set_cons_zero]
    (refine wpMd_quietG antiF_post (by kernel_rfl) ?_; intro S hm hk; clear hm hk; go_big_quiet_step (fail); refine wpQuiet_nil ?_)
    (refine wpMd_quietG antiF_post (by kernel_rfl) ?_; intro S hm hk; clear hm hk; go_big_quiet_step (fail); refine wpQuiet_nil ?_)
    refine wpMd_nil ?_
    intro x hx _
    go_wp2
    go_ret
    exact ⟨rfl, HU.out.trans hx⟩
  · have k1 := cat (A := ⟨#[102, 105, 120, 32]⟩) (B := bst bl) (a := [102, 105, 120, 32]) rfl rfl rfl (by decide) (by omega)
    obtain ⟨s1, hs1⟩ : ∃ s, [102, 105, 120, 32] ++ bl = s := ⟨_, rfl⟩
    have l1 : s1.length ≤ 100 := by rw [← hs1]; simp; omega
    have k2 := cat (A := bst s1) (B := ⟨#[32]⟩) (b := [32]) rfl rfl rfl (by omega) (by decide)
    obtain ⟨s2, hs2⟩ : ∃ s, s1 ++ [32] = s := ⟨_, rfl⟩
    have l2 : s2.length ≤ 101 := by rw [← hs2]; simp; omega
    have k3 := cat (A := bst s2) (B := bst fl) rfl rfl rfl (by omega) (by omega)
    obtain ⟨s3, hs3⟩ : ∃ s, s2 ++ fl = s := ⟨_, rfl⟩
    have l3 : s3.length ≤ 200 := by rw [← hs3]; simp; omega
    have k4 := cat (A := bst s3) (B := ⟨#[32]⟩) (b := [32]) rfl rfl rfl (by omega) (by decide)
    obtain ⟨s4, hs4⟩ : ∃ s, s3 ++ [32] = s := ⟨_, rfl⟩
    have l4 : s4.length ≤ 201 := by rw [← hs4]; simp; omega
    have k5 := cat (A := bst s4) (B := ⟨#[102, 108, 111, 111, 114]⟩) (b := [102, 108, 111, 111, 114]) rfl rfl rfl (by omega) (by decide)
    obtain ⟨s5, hs5⟩ : ∃ s, s4 ++ [102, 108, 111, 111, 114] = s := ⟨_, rfl⟩
    have l5 : s5.length ≤ 300 := by rw [← hs5]; simp; omega
    have k6 := cat (A := bst s5) (B := ⟨#[32]⟩) (b := [32]) rfl rfl rfl (by omega) (by decide)
    obtain ⟨s6, hs6⟩ : ∃ s, s5 ++ [32] = s := ⟨_, rfl⟩
    have l6 : s6.length ≤ 301 := by rw [← hs6]; simp; omega
    have k7 := cat (A := bst s6) (B := ⟨#[119, 114, 97, 112]⟩) (b := [119, 114, 97, 112]) rfl rfl rfl (by omega) (by decide)
    have HS : Hid (s6 ++ [119, 114, 97, 112] = T) := Lib.hid (by rw [← HE.out, ← hs6, ← hs5, ← hs4, ← hs3, ← hs2, ← hs1]; rfl)
    rw [hs1] at k1
    rw [hs2] at k2
    rw [hs3] at k3
    rw [hs4] at k4
    rw [hs5] at k5
    rw [hs6] at k6
    rw [HS.out] at k7
    clear hs1 hs2 hs3 hs4 hs5 hs6 l1 l2 l3 l4 l5 l6 lb lf HE
    go_enter Tryz.func61, Tryz.ntmps61
    go_upto_region 5 with (fail)
    generalize w.alloc (.cells #[.int .i64 2, .int .i64 b, .int .i64 f, .int .i64 1, .int .i64 2] 40) = y at *
    obtain ⟨c0, c1, c2, c3, c4⟩ := B0.out.five
    have hs0 := B0.out.lt
    refine wp_region_md_all kdM (by kernel_rfl) (by kernel_rfl) ?_
    (refine wpMd_quietG antiF_post (by kernel_rfl) ?_; intro S hm hk; clear hm hk; go_big_quiet_step (fail); refine wpQuiet_nil ?_)
    (refine wpMd_quietG antiF_post (by kernel_rfl) ?_; intro S hm hk; clear hm hk; go_big_quiet_step (fail); refine wpQuiet_nil ?_)
    refine wpMd_enterG antiF_post 60 #[.int .i64 b] (kdM_up _ _) (by kernel_rfl) (fun x => by go_simp) (fun x hx hd => HDB.out x) ?_
    rintro v ⟨y', hy', n', hn1, rfl⟩ S hm hk
    clear hm hk
    cases hn1
    rw [HBL.out]
    clear y' hy'
    simp only [Act.put, List.setIfInBounds_toArray, List.set_cons_succ, List.set_cons_zero]
    (refine wpMd_quietG antiF_post (by kernel_rfl) ?_; intro S hm hk; clear hm hk; go_big_quiet_step (fail); refine wpQuiet_nil ?_)
    (refine wpMd_quietG antiF_post (by kernel_rfl) ?_; intro S hm hk; clear hm hk; go_big_quiet_step (fail); refine wpQuiet_nil ?_)
    (refine wpMd_quietG antiF_post (by kernel_rfl) ?_; intro S hm hk; clear hm hk; go_big_quiet_step (fail); refine wpQuiet_nil ?_)
    (refine wpMd_quietG antiF_post (by kernel_rfl) ?_; intro S hm hk; clear hm hk; go_big_quiet_step (fail); refine wpQuiet_nil ?_)
    refine wpMd_enterG antiF_post 60 #[.int .i64 f] (kdM_up _ _) (by kernel_rfl) (fun x => by go_simp) (fun x hx hd => HDF.out x) ?_
    rintro v ⟨y', hy', n', hn1, rfl⟩ S hm hk
    clear hm hk
    cases hn1
    rw [HFL.out]
    clear y' hy'
    simp only [Act.put, List.setIfInBounds_toArray, List.set_cons_succ, List.set_cons_zero]
    (refine wpMd_quietG antiF_post (by kernel_rfl) ?_; intro S hm hk; clear hm hk; go_big_quiet_step (fail); refine wpQuiet_nil ?_)
    (refine wpMd_quietG antiF_post (by kernel_rfl) ?_; intro S hm hk; clear hm hk; go_big_quiet_step (fail); refine wpQuiet_nil ?_)
    refine wpMd_row antiF_post #[.string { data := #[102, 108, 111, 111, 114] }, .string { data := #[99, 101, 105, 108] }, .string { data := #[122, 101, 114, 111] }, .string { data := #[101, 118, 101, 110] }] 9 4 (by kernel_rfl) (fun x => by go_simp) ?_
    rintro bk hbk S hm hk
    have HF0 : Hid (∀ x, S 10 x → x.heap[bk]? = some (.cells #[.string { data := #[102, 108, 111, 111, 114] }, .string { data := #[99, 101, 105, 108] }, .string { data := #[122, 101, 114, 111] }, .string { data := #[101, 118, 101, 110] }] 9 (0, 0))) := Lib.hid hk
    clear hm hk hbk
    simp only [Act.put, List.setIfInBounds_toArray, List.set_cons_succ, List.set_cons_zero]
    (refine wpMd_quietG antiF_post (by kernel_rfl) ?_; intro S hm hk; replace HF0 := Lib.hid (fun x hx => HF0.out x (hm _ x hx)); clear hm hk; go_big_quiet_step (fail); refine wpQuiet_nil ?_)
    (refine wpMd_quietG antiF_post (by kernel_rfl) ?_; intro S hm hk; replace HF0 := Lib.hid (fun x hx => HF0.out x (hm _ x hx)); clear hm hk; go_big_quiet_step (fail); refine wpQuiet_nil ?_)
    (refine wpMd_quietG antiF_post (by kernel_rfl) ?_; intro S hm hk; replace HF0 := Lib.hid (fun x hx => HF0.out x (hm _ x hx)); clear hm hk; go_big_quiet_step (fail); refine wpQuiet_nil ?_)
    (refine wpMd_quietG antiF_post (by kernel_rfl) ?_; intro S hm hk; have HF : Hid (∀ x, S 14 x → x.heap[bk]? = some (.cells #[.string { data := #[102, 108, 111, 111, 114] }, .string { data := #[99, 101, 105, 108] }, .string { data := #[122, 101, 114, 111] }, .string { data := #[101, 118, 101, 110] }] 9 (0, 0))) := Lib.hid (fun x hx => HF0.out x (hk x hx { on := 10, ground := Ground.data } (by simp) rfl)); clear hm hk HF0; go_big_quiet_step (fail); refine wpQuiet_nil ?_)
    refine wpMd_readG antiF_post (.string { data := #[102, 108, 111, 111, 114] }) (by kernel_rfl) (fun x hx hd => by
      have hh := HF.out x (hd { on := 14, ground := Ground.data } (by simp) rfl)
      have cc : x.cell? ⟨bk, 0, none⟩ = some (.string { data := #[102, 108, 111, 111, 114] }) := cell_of_row _ _ _ _ _ _ hh
      clear hd hh
      go_simp) ?_
    intro S hm
    clear hm HF
    simp only [Act.put, List.setIfInBounds_toArray, List.set_cons_succ, List.set_cons_zero]
    (refine wpMd_quietG antiF_post (by kernel_rfl) ?_; intro S hm hk; clear hm hk; go_big_quiet_step (fail); refine wpQuiet_nil ?_)
    (refine wpMd_quietG antiF_post (by kernel_rfl) ?_; intro S hm hk; clear hm hk; go_big_quiet_step (fail); refine wpQuiet_nil ?_)
    refine wpMd_row antiF_post #[.string { data := #[115, 97, 116] }, .string { data := #[119, 114, 97, 112] }] 9 2 (by kernel_rfl) (fun x => by go_simp) ?_
    rintro bk hbk S hm hk
    have HF0 : Hid (∀ x, S 18 x → x.heap[bk]? = some (.cells #[.string { data := #[115, 97, 116] }, .string { data := #[119, 114, 97, 112] }] 9 (0, 0))) := Lib.hid hk
    clear hm hk hbk
    simp only [Act.put, List.setIfInBounds_toArray, List.set_cons_succ, List.set_cons_zero]
    (refine wpMd_quietG antiF_post (by kernel_rfl) ?_; intro S hm hk; replace HF0 := Lib.hid (fun x hx => HF0.out x (hm _ x hx)); clear hm hk; go_big_quiet_step (fail); refine wpQuiet_nil ?_)
    (refine wpMd_quietG antiF_post (by kernel_rfl) ?_; intro S hm hk; replace HF0 := Lib.hid (fun x hx => HF0.out x (hm _ x hx)); clear hm hk; go_big_quiet_step (fail); refine wpQuiet_nil ?_)
    (refine wpMd_quietG antiF_post (by kernel_rfl) ?_; intro S hm hk; replace HF0 := Lib.hid (fun x hx => HF0.out x (hm _ x hx)); clear hm hk; go_big_quiet_step (fail); refine wpQuiet_nil ?_)
    (refine wpMd_quietG antiF_post (by kernel_rfl) ?_; intro S hm hk; have HF : Hid (∀ x, S 22 x → x.heap[bk]? = some (.cells #[.string { data := #[115, 97, 116] }, .string { data := #[119, 114, 97, 112] }] 9 (0, 0))) := Lib.hid (fun x hx => HF0.out x (hk x hx { on := 18, ground := Ground.data } (by simp) rfl)); clear hm hk HF0; go_big_quiet_step (fail); refine wpQuiet_nil ?_)
    refine wpMd_readG antiF_post (.string { data := #[119, 114, 97, 112] }) (by kernel_rfl) (fun x hx hd => by
      have hh := HF.out x (hd { on := 22, ground := Ground.data } (by simp) rfl)
      have cc : x.cell? ⟨bk, 1, none⟩ = some (.string { data := #[119, 114, 97, 112] }) := cell_of_row _ _ _ _ _ _ hh
      clear hd hh
      go_simp) ?_
    intro S hm
    clear hm HF
    simp only [Act.put, List.setIfInBounds_toArray, List.set_cons_succ, List.set_cons_zero]
    (refine wpMd_quietG antiF_post (by kernel_rfl) ?_; intro S hm hk; clear hm hk; go_big_quiet_step (fail); refine wpQuiet_nil ?_)
    (refine wpMd_quietG antiF_post (by kernel_rfl) ?_; intro S hm hk; clear hm hk; go_big_quiet_step (fail); refine wpQuiet_nil ?_)
    refine wpMd_nil ?_
    intro x hx _
    go_wp2
    go_ret
    exact ⟨rfl, HU.out.trans hx⟩
  · have k1 := cat (A := ⟨#[102, 105, 120, 32]⟩) (B := bst bl) (a := [102, 105, 120, 32]) rfl rfl rfl (by decide) (by omega)
    obtain ⟨s1, hs1⟩ : ∃ s, [102, 105, 120, 32] ++ bl = s := ⟨_, rfl⟩
    have l1 : s1.length ≤ 100 := by rw [← hs1]; simp; omega
    have k2 := cat (A := bst s1) (B := ⟨#[32]⟩) (b := [32]) rfl rfl rfl (by omega) (by decide)
    obtain ⟨s2, hs2⟩ : ∃ s, s1 ++ [32] = s := ⟨_, rfl⟩
    have l2 : s2.length ≤ 101 := by rw [← hs2]; simp; omega
    have k3 := cat (A := bst s2) (B := bst fl) rfl rfl rfl (by omega) (by omega)
    obtain ⟨s3, hs3⟩ : ∃ s, s2 ++ fl = s := ⟨_, rfl⟩
    have l3 : s3.length ≤ 200 := by rw [← hs3]; simp; omega
    have k4 := cat (A := bst s3) (B := ⟨#[32]⟩) (b := [32]) rfl rfl rfl (by omega) (by decide)
    obtain ⟨s4, hs4⟩ : ∃ s, s3 ++ [32] = s := ⟨_, rfl⟩
    have l4 : s4.length ≤ 201 := by rw [← hs4]; simp; omega
    have k5 := cat (A := bst s4) (B := ⟨#[99, 101, 105, 108]⟩) (b := [99, 101, 105, 108]) rfl rfl rfl (by omega) (by decide)
    obtain ⟨s5, hs5⟩ : ∃ s, s4 ++ [99, 101, 105, 108] = s := ⟨_, rfl⟩
    have l5 : s5.length ≤ 300 := by rw [← hs5]; simp; omega
    have k6 := cat (A := bst s5) (B := ⟨#[32]⟩) (b := [32]) rfl rfl rfl (by omega) (by decide)
    obtain ⟨s6, hs6⟩ : ∃ s, s5 ++ [32] = s := ⟨_, rfl⟩
    have l6 : s6.length ≤ 301 := by rw [← hs6]; simp; omega
    have k7 := cat (A := bst s6) (B := ⟨#[115, 97, 116]⟩) (b := [115, 97, 116]) rfl rfl rfl (by omega) (by decide)
    have HS : Hid (s6 ++ [115, 97, 116] = T) := Lib.hid (by rw [← HE.out, ← hs6, ← hs5, ← hs4, ← hs3, ← hs2, ← hs1]; rfl)
    rw [hs1] at k1
    rw [hs2] at k2
    rw [hs3] at k3
    rw [hs4] at k4
    rw [hs5] at k5
    rw [hs6] at k6
    rw [HS.out] at k7
    clear hs1 hs2 hs3 hs4 hs5 hs6 l1 l2 l3 l4 l5 l6 lb lf HE
    go_enter Tryz.func61, Tryz.ntmps61
    go_upto_region 5 with (fail)
    generalize w.alloc (.cells #[.int .i64 2, .int .i64 b, .int .i64 f, .int .i64 2, .int .i64 1] 40) = y at *
    obtain ⟨c0, c1, c2, c3, c4⟩ := B0.out.five
    have hs0 := B0.out.lt
    refine wp_region_md_all kdM (by kernel_rfl) (by kernel_rfl) ?_
    (refine wpMd_quietG antiF_post (by kernel_rfl) ?_; intro S hm hk; clear hm hk; go_big_quiet_step (fail); refine wpQuiet_nil ?_)
    (refine wpMd_quietG antiF_post (by kernel_rfl) ?_; intro S hm hk; clear hm hk; go_big_quiet_step (fail); refine wpQuiet_nil ?_)
    refine wpMd_enterG antiF_post 60 #[.int .i64 b] (kdM_up _ _) (by kernel_rfl) (fun x => by go_simp) (fun x hx hd => HDB.out x) ?_
    rintro v ⟨y', hy', n', hn1, rfl⟩ S hm hk
    clear hm hk
    cases hn1
    rw [HBL.out]
    clear y' hy'
    simp only [Act.put, List.setIfInBounds_toArray, List.set_cons_succ, List.set_cons_zero]
    (refine wpMd_quietG antiF_post (by kernel_rfl) ?_; intro S hm hk; clear hm hk; go_big_quiet_step (fail); refine wpQuiet_nil ?_)
    (refine wpMd_quietG antiF_post (by kernel_rfl) ?_; intro S hm hk; clear hm hk; go_big_quiet_step (fail); refine wpQuiet_nil ?_)
    (refine wpMd_quietG antiF_post (by kernel_rfl) ?_; intro S hm hk; clear hm hk; go_big_quiet_step (fail); refine wpQuiet_nil ?_)
    (refine wpMd_quietG antiF_post (by kernel_rfl) ?_; intro S hm hk; clear hm hk; go_big_quiet_step (fail); refine wpQuiet_nil ?_)
    refine wpMd_enterG antiF_post 60 #[.int .i64 f] (kdM_up _ _) (by kernel_rfl) (fun x => by go_simp) (fun x hx hd => HDF.out x) ?_
    rintro v ⟨y', hy', n', hn1, rfl⟩ S hm hk
    clear hm hk
    cases hn1
    rw [HFL.out]
    clear y' hy'
    simp only [Act.put, List.setIfInBounds_toArray, List.set_cons_succ, List.set_cons_zero]
    (refine wpMd_quietG antiF_post (by kernel_rfl) ?_; intro S hm hk; clear hm hk; go_big_quiet_step (fail); refine wpQuiet_nil ?_)
    (refine wpMd_quietG antiF_post (by kernel_rfl) ?_; intro S hm hk; clear hm hk; go_big_quiet_step (fail); refine wpQuiet_nil ?_)
    refine wpMd_row antiF_post #[.string { data := #[102, 108, 111, 111, 114] }, .string { data := #[99, 101, 105, 108] }, .string { data := #[122, 101, 114, 111] }, .string { data := #[101, 118, 101, 110] }] 9 4 (by kernel_rfl) (fun x => by go_simp) ?_
    rintro bk hbk S hm hk
    have HF0 : Hid (∀ x, S 10 x → x.heap[bk]? = some (.cells #[.string { data := #[102, 108, 111, 111, 114] }, .string { data := #[99, 101, 105, 108] }, .string { data := #[122, 101, 114, 111] }, .string { data := #[101, 118, 101, 110] }] 9 (0, 0))) := Lib.hid hk
    clear hm hk hbk
    simp only [Act.put, List.setIfInBounds_toArray, List.set_cons_succ, List.set_cons_zero]
    (refine wpMd_quietG antiF_post (by kernel_rfl) ?_; intro S hm hk; replace HF0 := Lib.hid (fun x hx => HF0.out x (hm _ x hx)); clear hm hk; go_big_quiet_step (fail); refine wpQuiet_nil ?_)
    (refine wpMd_quietG antiF_post (by kernel_rfl) ?_; intro S hm hk; replace HF0 := Lib.hid (fun x hx => HF0.out x (hm _ x hx)); clear hm hk; go_big_quiet_step (fail); refine wpQuiet_nil ?_)
    (refine wpMd_quietG antiF_post (by kernel_rfl) ?_; intro S hm hk; replace HF0 := Lib.hid (fun x hx => HF0.out x (hm _ x hx)); clear hm hk; go_big_quiet_step (fail); refine wpQuiet_nil ?_)
    (refine wpMd_quietG antiF_post (by kernel_rfl) ?_; intro S hm hk; have HF : Hid (∀ x, S 14 x → x.heap[bk]? = some (.cells #[.string { data := #[102, 108, 111, 111, 114] }, .string { data := #[99, 101, 105, 108] }, .string { data := #[122, 101, 114, 111] }, .string { data := #[101, 118, 101, 110] }] 9 (0, 0))) := Lib.hid (fun x hx => HF0.out x (hk x hx { on := 10, ground := Ground.data } (by simp) rfl)); clear hm hk HF0; go_big_quiet_step (fail); refine wpQuiet_nil ?_)
    refine wpMd_readG antiF_post (.string { data := #[99, 101, 105, 108] }) (by kernel_rfl) (fun x hx hd => by
      have hh := HF.out x (hd { on := 14, ground := Ground.data } (by simp) rfl)
      have cc : x.cell? ⟨bk, 1, none⟩ = some (.string { data := #[99, 101, 105, 108] }) := cell_of_row _ _ _ _ _ _ hh
      clear hd hh
      go_simp) ?_
    intro S hm
    clear hm HF
    simp only [Act.put, List.setIfInBounds_toArray, List.set_cons_succ, List.set_cons_zero]
    (refine wpMd_quietG antiF_post (by kernel_rfl) ?_; intro S hm hk; clear hm hk; go_big_quiet_step (fail); refine wpQuiet_nil ?_)
    (refine wpMd_quietG antiF_post (by kernel_rfl) ?_; intro S hm hk; clear hm hk; go_big_quiet_step (fail); refine wpQuiet_nil ?_)
    refine wpMd_row antiF_post #[.string { data := #[115, 97, 116] }, .string { data := #[119, 114, 97, 112] }] 9 2 (by kernel_rfl) (fun x => by go_simp) ?_
    rintro bk hbk S hm hk
    have HF0 : Hid (∀ x, S 18 x → x.heap[bk]? = some (.cells #[.string { data := #[115, 97, 116] }, .string { data := #[119, 114, 97, 112] }] 9 (0, 0))) := Lib.hid hk
    clear hm hk hbk
    simp only [Act.put, List.setIfInBounds_toArray, List.set_cons_succ, List.set_cons_zero]
    (refine wpMd_quietG antiF_post (by kernel_rfl) ?_; intro S hm hk; replace HF0 := Lib.hid (fun x hx => HF0.out x (hm _ x hx)); clear hm hk; go_big_quiet_step (fail); refine wpQuiet_nil ?_)
    (refine wpMd_quietG antiF_post (by kernel_rfl) ?_; intro S hm hk; replace HF0 := Lib.hid (fun x hx => HF0.out x (hm _ x hx)); clear hm hk; go_big_quiet_step (fail); refine wpQuiet_nil ?_)
    (refine wpMd_quietG antiF_post (by kernel_rfl) ?_; intro S hm hk; replace HF0 := Lib.hid (fun x hx => HF0.out x (hm _ x hx)); clear hm hk; go_big_quiet_step (fail); refine wpQuiet_nil ?_)
    (refine wpMd_quietG antiF_post (by kernel_rfl) ?_; intro S hm hk; have HF : Hid (∀ x, S 22 x → x.heap[bk]? = some (.cells #[.string { data := #[115, 97, 116] }, .string { data := #[119, 114, 97, 112] }] 9 (0, 0))) := Lib.hid (fun x hx => HF0.out x (hk x hx { on := 18, ground := Ground.data } (by simp) rfl)); clear hm hk HF0; go_big_quiet_step (fail); refine wpQuiet_nil ?_)
    refine wpMd_readG antiF_post (.string { data := #[115, 97, 116] }) (by kernel_rfl) (fun x hx hd => by
      have hh := HF.out x (hd { on := 22, ground := Ground.data } (by simp) rfl)
      have cc : x.cell? ⟨bk, 0, none⟩ = some (.string { data := #[115, 97, 116] }) := cell_of_row _ _ _ _ _ _ hh
      clear hd hh
      go_simp) ?_
    intro S hm
    clear hm HF
    simp only [Act.put, List.setIfInBounds_toArray, List.set_cons_succ, List.set_cons_zero]
    (refine wpMd_quietG antiF_post (by kernel_rfl) ?_; intro S hm hk; clear hm hk; go_big_quiet_step (fail); refine wpQuiet_nil ?_)
    (refine wpMd_quietG antiF_post (by kernel_rfl) ?_; intro S hm hk; clear hm hk; go_big_quiet_step (fail); refine wpQuiet_nil ?_)
    refine wpMd_nil ?_
    intro x hx _
    go_wp2
    go_ret
    exact ⟨rfl, HU.out.trans hx⟩
  · have k1 := cat (A := ⟨#[102, 105, 120, 32]⟩) (B := bst bl) (a := [102, 105, 120, 32]) rfl rfl rfl (by decide) (by omega)
    obtain ⟨s1, hs1⟩ : ∃ s, [102, 105, 120, 32] ++ bl = s := ⟨_, rfl⟩
    have l1 : s1.length ≤ 100 := by rw [← hs1]; simp; omega
    have k2 := cat (A := bst s1) (B := ⟨#[32]⟩) (b := [32]) rfl rfl rfl (by omega) (by decide)
    obtain ⟨s2, hs2⟩ : ∃ s, s1 ++ [32] = s := ⟨_, rfl⟩
    have l2 : s2.length ≤ 101 := by rw [← hs2]; simp; omega
    have k3 := cat (A := bst s2) (B := bst fl) rfl rfl rfl (by omega) (by omega)
    obtain ⟨s3, hs3⟩ : ∃ s, s2 ++ fl = s := ⟨_, rfl⟩
    have l3 : s3.length ≤ 200 := by rw [← hs3]; simp; omega
    have k4 := cat (A := bst s3) (B := ⟨#[32]⟩) (b := [32]) rfl rfl rfl (by omega) (by decide)
    obtain ⟨s4, hs4⟩ : ∃ s, s3 ++ [32] = s := ⟨_, rfl⟩
    have l4 : s4.length ≤ 201 := by rw [← hs4]; simp; omega
    have k5 := cat (A := bst s4) (B := ⟨#[99, 101, 105, 108]⟩) (b := [99, 101, 105, 108]) rfl rfl rfl (by omega) (by decide)
    obtain ⟨s5, hs5⟩ : ∃ s, s4 ++ [99, 101, 105, 108] = s := ⟨_, rfl⟩
    have l5 : s5.length ≤ 300 := by rw [← hs5]; simp; omega
    have k6 := cat (A := bst s5) (B := ⟨#[32]⟩) (b := [32]) rfl rfl rfl (by omega) (by decide)
    obtain ⟨s6, hs6⟩ : ∃ s, s5 ++ [32] = s := ⟨_, rfl⟩
    have l6 : s6.length ≤ 301 := by rw [← hs6]; simp; omega
    have k7 := cat (A := bst s6) (B := ⟨#[119, 114, 97, 112]⟩) (b := [119, 114, 97, 112]) rfl rfl rfl (by omega) (by decide)
    have HS : Hid (s6 ++ [119, 114, 97, 112] = T) := Lib.hid (by rw [← HE.out, ← hs6, ← hs5, ← hs4, ← hs3, ← hs2, ← hs1]; rfl)
    rw [hs1] at k1
    rw [hs2] at k2
    rw [hs3] at k3
    rw [hs4] at k4
    rw [hs5] at k5
    rw [hs6] at k6
    rw [HS.out] at k7
    clear hs1 hs2 hs3 hs4 hs5 hs6 l1 l2 l3 l4 l5 l6 lb lf HE
    go_enter Tryz.func61, Tryz.ntmps61
    go_upto_region 5 with (fail)
    generalize w.alloc (.cells #[.int .i64 2, .int .i64 b, .int .i64 f, .int .i64 2, .int .i64 2] 40) = y at *
    obtain ⟨c0, c1, c2, c3, c4⟩ := B0.out.five
    have hs0 := B0.out.lt
    refine wp_region_md_all kdM (by kernel_rfl) (by kernel_rfl) ?_
    (refine wpMd_quietG antiF_post (by kernel_rfl) ?_; intro S hm hk; clear hm hk; go_big_quiet_step (fail); refine wpQuiet_nil ?_)
    (refine wpMd_quietG antiF_post (by kernel_rfl) ?_; intro S hm hk; clear hm hk; go_big_quiet_step (fail); refine wpQuiet_nil ?_)
    refine wpMd_enterG antiF_post 60 #[.int .i64 b] (kdM_up _ _) (by kernel_rfl) (fun x => by go_simp) (fun x hx hd => HDB.out x) ?_
    rintro v ⟨y', hy', n', hn1, rfl⟩ S hm hk
    clear hm hk
    cases hn1
    rw [HBL.out]
    clear y' hy'
    simp only [Act.put, List.setIfInBounds_toArray, List.set_cons_succ, List.set_cons_zero]
    (refine wpMd_quietG antiF_post (by kernel_rfl) ?_; intro S hm hk; clear hm hk; go_big_quiet_step (fail); refine wpQuiet_nil ?_)
    (refine wpMd_quietG antiF_post (by kernel_rfl) ?_; intro S hm hk; clear hm hk; go_big_quiet_step (fail); refine wpQuiet_nil ?_)
    (refine wpMd_quietG antiF_post (by kernel_rfl) ?_; intro S hm hk; clear hm hk; go_big_quiet_step (fail); refine wpQuiet_nil ?_)
    (refine wpMd_quietG antiF_post (by kernel_rfl) ?_; intro S hm hk; clear hm hk; go_big_quiet_step (fail); refine wpQuiet_nil ?_)
    refine wpMd_enterG antiF_post 60 #[.int .i64 f] (kdM_up _ _) (by kernel_rfl) (fun x => by go_simp) (fun x hx hd => HDF.out x) ?_
    rintro v ⟨y', hy', n', hn1, rfl⟩ S hm hk
    clear hm hk
    cases hn1
    rw [HFL.out]
    clear y' hy'
    simp only [Act.put, List.setIfInBounds_toArray, List.set_cons_succ, List.set_cons_zero]
    (refine wpMd_quietG antiF_post (by kernel_rfl) ?_; intro S hm hk; clear hm hk; go_big_quiet_step (fail); refine wpQuiet_nil ?_)
    (refine wpMd_quietG antiF_post (by kernel_rfl) ?_; intro S hm hk; clear hm hk; go_big_quiet_step (fail); refine wpQuiet_nil ?_)
    refine wpMd_row antiF_post #[.string { data := #[102, 108, 111, 111, 114] }, .string { data := #[99, 101, 105, 108] }, .string { data := #[122, 101, 114, 111] }, .string { data := #[101, 118, 101, 110] }] 9 4 (by kernel_rfl) (fun x => by go_simp) ?_
    rintro bk hbk S hm hk
    have HF0 : Hid (∀ x, S 10 x → x.heap[bk]? = some (.cells #[.string { data := #[102, 108, 111, 111, 114] }, .string { data := #[99, 101, 105, 108] }, .string { data := #[122, 101, 114, 111] }, .string { data := #[101, 118, 101, 110] }] 9 (0, 0))) := Lib.hid hk
    clear hm hk hbk
    simp only [Act.put, List.setIfInBounds_toArray, List.set_cons_succ, List.set_cons_zero]
    (refine wpMd_quietG antiF_post (by kernel_rfl) ?_; intro S hm hk; replace HF0 := Lib.hid (fun x hx => HF0.out x (hm _ x hx)); clear hm hk; go_big_quiet_step (fail); refine wpQuiet_nil ?_)
    (refine wpMd_quietG antiF_post (by kernel_rfl) ?_; intro S hm hk; replace HF0 := Lib.hid (fun x hx => HF0.out x (hm _ x hx)); clear hm hk; go_big_quiet_step (fail); refine wpQuiet_nil ?_)
    (refine wpMd_quietG antiF_post (by kernel_rfl) ?_; intro S hm hk; replace HF0 := Lib.hid (fun x hx => HF0.out x (hm _ x hx)); clear hm hk; go_big_quiet_step (fail); refine wpQuiet_nil ?_)
    (refine wpMd_quietG antiF_post (by kernel_rfl) ?_; intro S hm hk; have HF : Hid (∀ x, S 14 x → x.heap[bk]? = some (.cells #[.string { data := #[102, 108, 111, 111, 114] }, .string { data := #[99, 101, 105, 108] }, .string { data := #[122, 101, 114, 111] }, .string { data := #[101, 118, 101, 110] }] 9 (0, 0))) := Lib.hid (fun x hx => HF0.out x (hk x hx { on := 10, ground := Ground.data } (by simp) rfl)); clear hm hk HF0; go_big_quiet_step (fail); refine wpQuiet_nil ?_)
    refine wpMd_readG antiF_post (.string { data := #[99, 101, 105, 108] }) (by kernel_rfl) (fun x hx hd => by
      have hh := HF.out x (hd { on := 14, ground := Ground.data } (by simp) rfl)
      have cc : x.cell? ⟨bk, 1, none⟩ = some (.string { data := #[99, 101, 105, 108] }) := cell_of_row _ _ _ _ _ _ hh
      clear hd hh
      go_simp) ?_
    intro S hm
    clear hm HF
    simp only [Act.put, List.setIfInBounds_toArray, List.set_cons_succ, List.set_cons_zero]
    (refine wpMd_quietG antiF_post (by kernel_rfl) ?_; intro S hm hk; clear hm hk; go_big_quiet_step (fail); refine wpQuiet_nil ?_)
    (refine wpMd_quietG antiF_post (by kernel_rfl) ?_; intro S hm hk; clear hm hk; go_big_quiet_step (fail); refine wpQuiet_nil ?_)
    refine wpMd_row antiF_post #[.string { data := #[115, 97, 116] }, .string { data := #[119, 114, 97, 112] }] 9 2 (by kernel_rfl) (fun x => by go_simp) ?_
    rintro bk hbk S hm hk
    have HF0 : Hid (∀ x, S 18 x → x.heap[bk]? = some (.cells #[.string { data := #[115, 97, 116] }, .string { data := #[119, 114, 97, 112] }] 9 (0, 0))) := Lib.hid hk
    clear hm hk hbk
    simp only [Act.put, List.setIfInBounds_toArray, List.set_cons_succ, List.set_cons_zero]
    (refine wpMd_quietG antiF_post (by kernel_rfl) ?_; intro S hm hk; replace HF0 := Lib.hid (fun x hx => HF0.out x (hm _ x hx)); clear hm hk; go_big_quiet_step (fail); refine wpQuiet_nil ?_)
    (refine wpMd_quietG antiF_post (by kernel_rfl) ?_; intro S hm hk; replace HF0 := Lib.hid (fun x hx => HF0.out x (hm _ x hx)); clear hm hk; go_big_quiet_step (fail); refine wpQuiet_nil ?_)
    (refine wpMd_quietG antiF_post (by kernel_rfl) ?_; intro S hm hk; replace HF0 := Lib.hid (fun x hx => HF0.out x (hm _ x hx)); clear hm hk; go_big_quiet_step (fail); refine wpQuiet_nil ?_)
    (refine wpMd_quietG antiF_post (by kernel_rfl) ?_; intro S hm hk; have HF : Hid (∀ x, S 22 x → x.heap[bk]? = some (.cells #[.string { data := #[115, 97, 116] }, .string { data := #[119, 114, 97, 112] }] 9 (0, 0))) := Lib.hid (fun x hx => HF0.out x (hk x hx { on := 18, ground := Ground.data } (by simp) rfl)); clear hm hk HF0; go_big_quiet_step (fail); refine wpQuiet_nil ?_)
    refine wpMd_readG antiF_post (.string { data := #[119, 114, 97, 112] }) (by kernel_rfl) (fun x hx hd => by
      have hh := HF.out x (hd { on := 22, ground := Ground.data } (by simp) rfl)
      have cc : x.cell? ⟨bk, 1, none⟩ = some (.string { data := #[119, 114, 97, 112] }) := cell_of_row _ _ _ _ _ _ hh
      clear hd hh
      go_simp) ?_
    intro S hm
    clear hm HF
    simp only [Act.put, List.setIfInBounds_toArray, List.set_cons_succ, List.set_cons_zero]
    (refine wpMd_quietG antiF_post (by kernel_rfl) ?_; intro S hm hk; clear hm hk; go_big_quiet_step (fail); refine wpQuiet_nil ?_)
    (refine wpMd_quietG antiF_post (by kernel_rfl) ?_; intro S hm hk; clear hm hk; go_big_quiet_step (fail); refine wpQuiet_nil ?_)
    refine wpMd_nil ?_
    intro x hx _
    go_wp2
    go_ret
    exact ⟨rfl, HU.out.trans hx⟩
  · have k1 := cat (A := ⟨#[102, 105, 120, 32]⟩) (B := bst bl) (a := [102, 105, 120, 32]) rfl rfl rfl (by decide) (by omega)
    obtain ⟨s1, hs1⟩ : ∃ s, [102, 105, 120, 32] ++ bl = s := ⟨_, rfl⟩
    have l1 : s1.length ≤ 100 := by rw [← hs1]; simp; omega
    have k2 := cat (A := bst s1) (B := ⟨#[32]⟩) (b := [32]) rfl rfl rfl (by omega) (by decide)
    obtain ⟨s2, hs2⟩ : ∃ s, s1 ++ [32] = s := ⟨_, rfl⟩
    have l2 : s2.length ≤ 101 := by rw [← hs2]; simp; omega
    have k3 := cat (A := bst s2) (B := bst fl) rfl rfl rfl (by omega) (by omega)
    obtain ⟨s3, hs3⟩ : ∃ s, s2 ++ fl = s := ⟨_, rfl⟩
    have l3 : s3.length ≤ 200 := by rw [← hs3]; simp; omega
    have k4 := cat (A := bst s3) (B := ⟨#[32]⟩) (b := [32]) rfl rfl rfl (by omega) (by decide)
    obtain ⟨s4, hs4⟩ : ∃ s, s3 ++ [32] = s := ⟨_, rfl⟩
    have l4 : s4.length ≤ 201 := by rw [← hs4]; simp; omega
    have k5 := cat (A := bst s4) (B := ⟨#[122, 101, 114, 111]⟩) (b := [122, 101, 114, 111]) rfl rfl rfl (by omega) (by decide)
    obtain ⟨s5, hs5⟩ : ∃ s, s4 ++ [122, 101, 114, 111] = s := ⟨_, rfl⟩
    have l5 : s5.length ≤ 300 := by rw [← hs5]; simp; omega
    have k6 := cat (A := bst s5) (B := ⟨#[32]⟩) (b := [32]) rfl rfl rfl (by omega) (by decide)
    obtain ⟨s6, hs6⟩ : ∃ s, s5 ++ [32] = s := ⟨_, rfl⟩
    have l6 : s6.length ≤ 301 := by rw [← hs6]; simp; omega
    have k7 := cat (A := bst s6) (B := ⟨#[115, 97, 116]⟩) (b := [115, 97, 116]) rfl rfl rfl (by omega) (by decide)
    have HS : Hid (s6 ++ [115, 97, 116] = T) := Lib.hid (by rw [← HE.out, ← hs6, ← hs5, ← hs4, ← hs3, ← hs2, ← hs1]; rfl)
    rw [hs1] at k1
    rw [hs2] at k2
    rw [hs3] at k3
    rw [hs4] at k4
    rw [hs5] at k5
    rw [hs6] at k6
    rw [HS.out] at k7
    clear hs1 hs2 hs3 hs4 hs5 hs6 l1 l2 l3 l4 l5 l6 lb lf HE
    go_enter Tryz.func61, Tryz.ntmps61
    go_upto_region 5 with (fail)
    generalize w.alloc (.cells #[.int .i64 2, .int .i64 b, .int .i64 f, .int .i64 3, .int .i64 1] 40) = y at *
    obtain ⟨c0, c1, c2, c3, c4⟩ := B0.out.five
    have hs0 := B0.out.lt
    refine wp_region_md_all kdM (by kernel_rfl) (by kernel_rfl) ?_
    (refine wpMd_quietG antiF_post (by kernel_rfl) ?_; intro S hm hk; clear hm hk; go_big_quiet_step (fail); refine wpQuiet_nil ?_)
    (refine wpMd_quietG antiF_post (by kernel_rfl) ?_; intro S hm hk; clear hm hk; go_big_quiet_step (fail); refine wpQuiet_nil ?_)
    refine wpMd_enterG antiF_post 60 #[.int .i64 b] (kdM_up _ _) (by kernel_rfl) (fun x => by go_simp) (fun x hx hd => HDB.out x) ?_
    rintro v ⟨y', hy', n', hn1, rfl⟩ S hm hk
    clear hm hk
    cases hn1
    rw [HBL.out]
    clear y' hy'
    simp only [Act.put, List.setIfInBounds_toArray, List.set_cons_succ, List.set_cons_zero]
    (refine wpMd_quietG antiF_post (by kernel_rfl) ?_; intro S hm hk; clear hm hk; go_big_quiet_step (fail); refine wpQuiet_nil ?_)
    (refine wpMd_quietG antiF_post (by kernel_rfl) ?_; intro S hm hk; clear hm hk; go_big_quiet_step (fail); refine wpQuiet_nil ?_)
    (refine wpMd_quietG antiF_post (by kernel_rfl) ?_; intro S hm hk; clear hm hk; go_big_quiet_step (fail); refine wpQuiet_nil ?_)
    (refine wpMd_quietG antiF_post (by kernel_rfl) ?_; intro S hm hk; clear hm hk; go_big_quiet_step (fail); refine wpQuiet_nil ?_)
    refine wpMd_enterG antiF_post 60 #[.int .i64 f] (kdM_up _ _) (by kernel_rfl) (fun x => by go_simp) (fun x hx hd => HDF.out x) ?_
    rintro v ⟨y', hy', n', hn1, rfl⟩ S hm hk
    clear hm hk
    cases hn1
    rw [HFL.out]
    clear y' hy'
    simp only [Act.put, List.setIfInBounds_toArray, List.set_cons_succ, List.set_cons_zero]
    (refine wpMd_quietG antiF_post (by kernel_rfl) ?_; intro S hm hk; clear hm hk; go_big_quiet_step (fail); refine wpQuiet_nil ?_)
    (refine wpMd_quietG antiF_post (by kernel_rfl) ?_; intro S hm hk; clear hm hk; go_big_quiet_step (fail); refine wpQuiet_nil ?_)
    refine wpMd_row antiF_post #[.string { data := #[102, 108, 111, 111, 114] }, .string { data := #[99, 101, 105, 108] }, .string { data := #[122, 101, 114, 111] }, .string { data := #[101, 118, 101, 110] }] 9 4 (by kernel_rfl) (fun x => by go_simp) ?_
    rintro bk hbk S hm hk
    have HF0 : Hid (∀ x, S 10 x → x.heap[bk]? = some (.cells #[.string { data := #[102, 108, 111, 111, 114] }, .string { data := #[99, 101, 105, 108] }, .string { data := #[122, 101, 114, 111] }, .string { data := #[101, 118, 101, 110] }] 9 (0, 0))) := Lib.hid hk
    clear hm hk hbk
    simp only [Act.put, List.setIfInBounds_toArray, List.set_cons_succ, List.set_cons_zero]
    (refine wpMd_quietG antiF_post (by kernel_rfl) ?_; intro S hm hk; replace HF0 := Lib.hid (fun x hx => HF0.out x (hm _ x hx)); clear hm hk; go_big_quiet_step (fail); refine wpQuiet_nil ?_)
    (refine wpMd_quietG antiF_post (by kernel_rfl) ?_; intro S hm hk; replace HF0 := Lib.hid (fun x hx => HF0.out x (hm _ x hx)); clear hm hk; go_big_quiet_step (fail); refine wpQuiet_nil ?_)
    (refine wpMd_quietG antiF_post (by kernel_rfl) ?_; intro S hm hk; replace HF0 := Lib.hid (fun x hx => HF0.out x (hm _ x hx)); clear hm hk; go_big_quiet_step (fail); refine wpQuiet_nil ?_)
    (refine wpMd_quietG antiF_post (by kernel_rfl) ?_; intro S hm hk; have HF : Hid (∀ x, S 14 x → x.heap[bk]? = some (.cells #[.string { data := #[102, 108, 111, 111, 114] }, .string { data := #[99, 101, 105, 108] }, .string { data := #[122, 101, 114, 111] }, .string { data := #[101, 118, 101, 110] }] 9 (0, 0))) := Lib.hid (fun x hx => HF0.out x (hk x hx { on := 10, ground := Ground.data } (by simp) rfl)); clear hm hk HF0; go_big_quiet_step (fail); refine wpQuiet_nil ?_)
    refine wpMd_readG antiF_post (.string { data := #[122, 101, 114, 111] }) (by kernel_rfl) (fun x hx hd => by
      have hh := HF.out x (hd { on := 14, ground := Ground.data } (by simp) rfl)
      have cc : x.cell? ⟨bk, 2, none⟩ = some (.string { data := #[122, 101, 114, 111] }) := cell_of_row _ _ _ _ _ _ hh
      clear hd hh
      go_simp) ?_
    intro S hm
    clear hm HF
    simp only [Act.put, List.setIfInBounds_toArray, List.set_cons_succ, List.set_cons_zero]
    (refine wpMd_quietG antiF_post (by kernel_rfl) ?_; intro S hm hk; clear hm hk; go_big_quiet_step (fail); refine wpQuiet_nil ?_)
    (refine wpMd_quietG antiF_post (by kernel_rfl) ?_; intro S hm hk; clear hm hk; go_big_quiet_step (fail); refine wpQuiet_nil ?_)
    refine wpMd_row antiF_post #[.string { data := #[115, 97, 116] }, .string { data := #[119, 114, 97, 112] }] 9 2 (by kernel_rfl) (fun x => by go_simp) ?_
    rintro bk hbk S hm hk
    have HF0 : Hid (∀ x, S 18 x → x.heap[bk]? = some (.cells #[.string { data := #[115, 97, 116] }, .string { data := #[119, 114, 97, 112] }] 9 (0, 0))) := Lib.hid hk
    clear hm hk hbk
    simp only [Act.put, List.setIfInBounds_toArray, List.set_cons_succ, List.set_cons_zero]
    (refine wpMd_quietG antiF_post (by kernel_rfl) ?_; intro S hm hk; replace HF0 := Lib.hid (fun x hx => HF0.out x (hm _ x hx)); clear hm hk; go_big_quiet_step (fail); refine wpQuiet_nil ?_)
    (refine wpMd_quietG antiF_post (by kernel_rfl) ?_; intro S hm hk; replace HF0 := Lib.hid (fun x hx => HF0.out x (hm _ x hx)); clear hm hk; go_big_quiet_step (fail); refine wpQuiet_nil ?_)
    (refine wpMd_quietG antiF_post (by kernel_rfl) ?_; intro S hm hk; replace HF0 := Lib.hid (fun x hx => HF0.out x (hm _ x hx)); clear hm hk; go_big_quiet_step (fail); refine wpQuiet_nil ?_)
    (refine wpMd_quietG antiF_post (by kernel_rfl) ?_; intro S hm hk; have HF : Hid (∀ x, S 22 x → x.heap[bk]? = some (.cells #[.string { data := #[115, 97, 116] }, .string { data := #[119, 114, 97, 112] }] 9 (0, 0))) := Lib.hid (fun x hx => HF0.out x (hk x hx { on := 18, ground := Ground.data } (by simp) rfl)); clear hm hk HF0; go_big_quiet_step (fail); refine wpQuiet_nil ?_)
    refine wpMd_readG antiF_post (.string { data := #[115, 97, 116] }) (by kernel_rfl) (fun x hx hd => by
      have hh := HF.out x (hd { on := 22, ground := Ground.data } (by simp) rfl)
      have cc : x.cell? ⟨bk, 0, none⟩ = some (.string { data := #[115, 97, 116] }) := cell_of_row _ _ _ _ _ _ hh
      clear hd hh
      go_simp) ?_
    intro S hm
    clear hm HF
    simp only [Act.put, List.setIfInBounds_toArray, List.set_cons_succ, List.set_cons_zero]
    (refine wpMd_quietG antiF_post (by kernel_rfl) ?_; intro S hm hk; clear hm hk; go_big_quiet_step (fail); refine wpQuiet_nil ?_)
    (refine wpMd_quietG antiF_post (by kernel_rfl) ?_; intro S hm hk; clear hm hk; go_big_quiet_step (fail); refine wpQuiet_nil ?_)
    refine wpMd_nil ?_
    intro x hx _
    go_wp2
    go_ret
    exact ⟨rfl, HU.out.trans hx⟩
  · have k1 := cat (A := ⟨#[102, 105, 120, 32]⟩) (B := bst bl) (a := [102, 105, 120, 32]) rfl rfl rfl (by decide) (by omega)
    obtain ⟨s1, hs1⟩ : ∃ s, [102, 105, 120, 32] ++ bl = s := ⟨_, rfl⟩
    have l1 : s1.length ≤ 100 := by rw [← hs1]; simp; omega
    have k2 := cat (A := bst s1) (B := ⟨#[32]⟩) (b := [32]) rfl rfl rfl (by omega) (by decide)
    obtain ⟨s2, hs2⟩ : ∃ s, s1 ++ [32] = s := ⟨_, rfl⟩
    have l2 : s2.length ≤ 101 := by rw [← hs2]; simp; omega
    have k3 := cat (A := bst s2) (B := bst fl) rfl rfl rfl (by omega) (by omega)
    obtain ⟨s3, hs3⟩ : ∃ s, s2 ++ fl = s := ⟨_, rfl⟩
    have l3 : s3.length ≤ 200 := by rw [← hs3]; simp; omega
    have k4 := cat (A := bst s3) (B := ⟨#[32]⟩) (b := [32]) rfl rfl rfl (by omega) (by decide)
    obtain ⟨s4, hs4⟩ : ∃ s, s3 ++ [32] = s := ⟨_, rfl⟩
    have l4 : s4.length ≤ 201 := by rw [← hs4]; simp; omega
    have k5 := cat (A := bst s4) (B := ⟨#[122, 101, 114, 111]⟩) (b := [122, 101, 114, 111]) rfl rfl rfl (by omega) (by decide)
    obtain ⟨s5, hs5⟩ : ∃ s, s4 ++ [122, 101, 114, 111] = s := ⟨_, rfl⟩
    have l5 : s5.length ≤ 300 := by rw [← hs5]; simp; omega
    have k6 := cat (A := bst s5) (B := ⟨#[32]⟩) (b := [32]) rfl rfl rfl (by omega) (by decide)
    obtain ⟨s6, hs6⟩ : ∃ s, s5 ++ [32] = s := ⟨_, rfl⟩
    have l6 : s6.length ≤ 301 := by rw [← hs6]; simp; omega
    have k7 := cat (A := bst s6) (B := ⟨#[119, 114, 97, 112]⟩) (b := [119, 114, 97, 112]) rfl rfl rfl (by omega) (by decide)
    have HS : Hid (s6 ++ [119, 114, 97, 112] = T) := Lib.hid (by rw [← HE.out, ← hs6, ← hs5, ← hs4, ← hs3, ← hs2, ← hs1]; rfl)
    rw [hs1] at k1
    rw [hs2] at k2
    rw [hs3] at k3
    rw [hs4] at k4
    rw [hs5] at k5
    rw [hs6] at k6
    rw [HS.out] at k7
    clear hs1 hs2 hs3 hs4 hs5 hs6 l1 l2 l3 l4 l5 l6 lb lf HE
    go_enter Tryz.func61, Tryz.ntmps61
    go_upto_region 5 with (fail)
    generalize w.alloc (.cells #[.int .i64 2, .int .i64 b, .int .i64 f, .int .i64 3, .int .i64 2] 40) = y at *
    obtain ⟨c0, c1, c2, c3, c4⟩ := B0.out.five
    have hs0 := B0.out.lt
    refine wp_region_md_all kdM (by kernel_rfl) (by kernel_rfl) ?_
    (refine wpMd_quietG antiF_post (by kernel_rfl) ?_; intro S hm hk; clear hm hk; go_big_quiet_step (fail); refine wpQuiet_nil ?_)
    (refine wpMd_quietG antiF_post (by kernel_rfl) ?_; intro S hm hk; clear hm hk; go_big_quiet_step (fail); refine wpQuiet_nil ?_)
    refine wpMd_enterG antiF_post 60 #[.int .i64 b] (kdM_up _ _) (by kernel_rfl) (fun x => by go_simp) (fun x hx hd => HDB.out x) ?_
    rintro v ⟨y', hy', n', hn1, rfl⟩ S hm hk
    clear hm hk
    cases hn1
    rw [HBL.out]
    clear y' hy'
    simp only [Act.put, List.setIfInBounds_toArray, List.set_cons_succ, List.set_cons_zero]
    (refine wpMd_quietG antiF_post (by kernel_rfl) ?_; intro S hm hk; clear hm hk; go_big_quiet_step (fail); refine wpQuiet_nil ?_)
    (refine wpMd_quietG antiF_post (by kernel_rfl) ?_; intro S hm hk; clear hm hk; go_big_quiet_step (fail); refine wpQuiet_nil ?_)
    (refine wpMd_quietG antiF_post (by kernel_rfl) ?_; intro S hm hk; clear hm hk; go_big_quiet_step (fail); refine wpQuiet_nil ?_)
    (refine wpMd_quietG antiF_post (by kernel_rfl) ?_; intro S hm hk; clear hm hk; go_big_quiet_step (fail); refine wpQuiet_nil ?_)
    refine wpMd_enterG antiF_post 60 #[.int .i64 f] (kdM_up _ _) (by kernel_rfl) (fun x => by go_simp) (fun x hx hd => HDF.out x) ?_
    rintro v ⟨y', hy', n', hn1, rfl⟩ S hm hk
    clear hm hk
    cases hn1
    rw [HFL.out]
    clear y' hy'
    simp only [Act.put, List.setIfInBounds_toArray, List.set_cons_succ, List.set_cons_zero]
    (refine wpMd_quietG antiF_post (by kernel_rfl) ?_; intro S hm hk; clear hm hk; go_big_quiet_step (fail); refine wpQuiet_nil ?_)
    (refine wpMd_quietG antiF_post (by kernel_rfl) ?_; intro S hm hk; clear hm hk; go_big_quiet_step (fail); refine wpQuiet_nil ?_)
    refine wpMd_row antiF_post #[.string { data := #[102, 108, 111, 111, 114] }, .string { data := #[99, 101, 105, 108] }, .string { data := #[122, 101, 114, 111] }, .string { data := #[101, 118, 101, 110] }] 9 4 (by kernel_rfl) (fun x => by go_simp) ?_
    rintro bk hbk S hm hk
    have HF0 : Hid (∀ x, S 10 x → x.heap[bk]? = some (.cells #[.string { data := #[102, 108, 111, 111, 114] }, .string { data := #[99, 101, 105, 108] }, .string { data := #[122, 101, 114, 111] }, .string { data := #[101, 118, 101, 110] }] 9 (0, 0))) := Lib.hid hk
    clear hm hk hbk
    simp only [Act.put, List.setIfInBounds_toArray, List.set_cons_succ, List.set_cons_zero]
    (refine wpMd_quietG antiF_post (by kernel_rfl) ?_; intro S hm hk; replace HF0 := Lib.hid (fun x hx => HF0.out x (hm _ x hx)); clear hm hk; go_big_quiet_step (fail); refine wpQuiet_nil ?_)
    (refine wpMd_quietG antiF_post (by kernel_rfl) ?_; intro S hm hk; replace HF0 := Lib.hid (fun x hx => HF0.out x (hm _ x hx)); clear hm hk; go_big_quiet_step (fail); refine wpQuiet_nil ?_)
    (refine wpMd_quietG antiF_post (by kernel_rfl) ?_; intro S hm hk; replace HF0 := Lib.hid (fun x hx => HF0.out x (hm _ x hx)); clear hm hk; go_big_quiet_step (fail); refine wpQuiet_nil ?_)
    (refine wpMd_quietG antiF_post (by kernel_rfl) ?_; intro S hm hk; have HF : Hid (∀ x, S 14 x → x.heap[bk]? = some (.cells #[.string { data := #[102, 108, 111, 111, 114] }, .string { data := #[99, 101, 105, 108] }, .string { data := #[122, 101, 114, 111] }, .string { data := #[101, 118, 101, 110] }] 9 (0, 0))) := Lib.hid (fun x hx => HF0.out x (hk x hx { on := 10, ground := Ground.data } (by simp) rfl)); clear hm hk HF0; go_big_quiet_step (fail); refine wpQuiet_nil ?_)
    refine wpMd_readG antiF_post (.string { data := #[122, 101, 114, 111] }) (by kernel_rfl) (fun x hx hd => by
      have hh := HF.out x (hd { on := 14, ground := Ground.data } (by simp) rfl)
      have cc : x.cell? ⟨bk, 2, none⟩ = some (.string { data := #[122, 101, 114, 111] }) := cell_of_row _ _ _ _ _ _ hh
      clear hd hh
      go_simp) ?_
    intro S hm
    clear hm HF
    simp only [Act.put, List.setIfInBounds_toArray, List.set_cons_succ, List.set_cons_zero]
    (refine wpMd_quietG antiF_post (by kernel_rfl) ?_; intro S hm hk; clear hm hk; go_big_quiet_step (fail); refine wpQuiet_nil ?_)
    (refine wpMd_quietG antiF_post (by kernel_rfl) ?_; intro S hm hk; clear hm hk; go_big_quiet_step (fail); refine wpQuiet_nil ?_)
    refine wpMd_row antiF_post #[.string { data := #[115, 97, 116] }, .string { data := #[119, 114, 97, 112] }] 9 2 (by kernel_rfl) (fun x => by go_simp) ?_
    rintro bk hbk S hm hk
    have HF0 : Hid (∀ x, S 18 x → x.heap[bk]? = some (.cells #[.string { data := #[115, 97, 116] }, .string { data := #[119, 114, 97, 112] }] 9 (0, 0))) := Lib.hid hk
    clear hm hk hbk
    simp only [Act.put, List.setIfInBounds_toArray, List.set_cons_succ, List.set_cons_zero]
    (refine wpMd_quietG antiF_post (by kernel_rfl) ?_; intro S hm hk; replace HF0 := Lib.hid (fun x hx => HF0.out x (hm _ x hx)); clear hm hk; go_big_quiet_step (fail); refine wpQuiet_nil ?_)
    (refine wpMd_quietG antiF_post (by kernel_rfl) ?_; intro S hm hk; replace HF0 := Lib.hid (fun x hx => HF0.out x (hm _ x hx)); clear hm hk; go_big_quiet_step (fail); refine wpQuiet_nil ?_)
    (refine wpMd_quietG antiF_post (by kernel_rfl) ?_; intro S hm hk; replace HF0 := Lib.hid (fun x hx => HF0.out x (hm _ x hx)); clear hm hk; go_big_quiet_step (fail); refine wpQuiet_nil ?_)
    (refine wpMd_quietG antiF_post (by kernel_rfl) ?_; intro S hm hk; have HF : Hid (∀ x, S 22 x → x.heap[bk]? = some (.cells #[.string { data := #[115, 97, 116] }, .string { data := #[119, 114, 97, 112] }] 9 (0, 0))) := Lib.hid (fun x hx => HF0.out x (hk x hx { on := 18, ground := Ground.data } (by simp) rfl)); clear hm hk HF0; go_big_quiet_step (fail); refine wpQuiet_nil ?_)
    refine wpMd_readG antiF_post (.string { data := #[119, 114, 97, 112] }) (by kernel_rfl) (fun x hx hd => by
      have hh := HF.out x (hd { on := 22, ground := Ground.data } (by simp) rfl)
      have cc : x.cell? ⟨bk, 1, none⟩ = some (.string { data := #[119, 114, 97, 112] }) := cell_of_row _ _ _ _ _ _ hh
      clear hd hh
      go_simp) ?_
    intro S hm
    clear hm HF
    simp only [Act.put, List.setIfInBounds_toArray, List.set_cons_succ, List.set_cons_zero]
    (refine wpMd_quietG antiF_post (by kernel_rfl) ?_; intro S hm hk; clear hm hk; go_big_quiet_step (fail); refine wpQuiet_nil ?_)
    (refine wpMd_quietG antiF_post (by kernel_rfl) ?_; intro S hm hk; clear hm hk; go_big_quiet_step (fail); refine wpQuiet_nil ?_)
    refine wpMd_nil ?_
    intro x hx _
    go_wp2
    go_ret
    exact ⟨rfl, HU.out.trans hx⟩
  · have k1 := cat (A := ⟨#[102, 105, 120, 32]⟩) (B := bst bl) (a := [102, 105, 120, 32]) rfl rfl rfl (by decide) (by omega)
    obtain ⟨s1, hs1⟩ : ∃ s, [102, 105, 120, 32] ++ bl = s := ⟨_, rfl⟩
    have l1 : s1.length ≤ 100 := by rw [← hs1]; simp; omega
    have k2 := cat (A := bst s1) (B := ⟨#[32]⟩) (b := [32]) rfl rfl rfl (by omega) (by decide)
    obtain ⟨s2, hs2⟩ : ∃ s, s1 ++ [32] = s := ⟨_, rfl⟩
    have l2 : s2.length ≤ 101 := by rw [← hs2]; simp; omega
    have k3 := cat (A := bst s2) (B := bst fl) rfl rfl rfl (by omega) (by omega)
    obtain ⟨s3, hs3⟩ : ∃ s, s2 ++ fl = s := ⟨_, rfl⟩
    have l3 : s3.length ≤ 200 := by rw [← hs3]; simp; omega
    have k4 := cat (A := bst s3) (B := ⟨#[32]⟩) (b := [32]) rfl rfl rfl (by omega) (by decide)
    obtain ⟨s4, hs4⟩ : ∃ s, s3 ++ [32] = s := ⟨_, rfl⟩
    have l4 : s4.length ≤ 201 := by rw [← hs4]; simp; omega
    have k5 := cat (A := bst s4) (B := ⟨#[101, 118, 101, 110]⟩) (b := [101, 118, 101, 110]) rfl rfl rfl (by omega) (by decide)
    obtain ⟨s5, hs5⟩ : ∃ s, s4 ++ [101, 118, 101, 110] = s := ⟨_, rfl⟩
    have l5 : s5.length ≤ 300 := by rw [← hs5]; simp; omega
    have k6 := cat (A := bst s5) (B := ⟨#[32]⟩) (b := [32]) rfl rfl rfl (by omega) (by decide)
    obtain ⟨s6, hs6⟩ : ∃ s, s5 ++ [32] = s := ⟨_, rfl⟩
    have l6 : s6.length ≤ 301 := by rw [← hs6]; simp; omega
    have k7 := cat (A := bst s6) (B := ⟨#[115, 97, 116]⟩) (b := [115, 97, 116]) rfl rfl rfl (by omega) (by decide)
    have HS : Hid (s6 ++ [115, 97, 116] = T) := Lib.hid (by rw [← HE.out, ← hs6, ← hs5, ← hs4, ← hs3, ← hs2, ← hs1]; rfl)
    rw [hs1] at k1
    rw [hs2] at k2
    rw [hs3] at k3
    rw [hs4] at k4
    rw [hs5] at k5
    rw [hs6] at k6
    rw [HS.out] at k7
    clear hs1 hs2 hs3 hs4 hs5 hs6 l1 l2 l3 l4 l5 l6 lb lf HE
    go_enter Tryz.func61, Tryz.ntmps61
    go_upto_region 5 with (fail)
    generalize w.alloc (.cells #[.int .i64 2, .int .i64 b, .int .i64 f, .int .i64 4, .int .i64 1] 40) = y at *
    obtain ⟨c0, c1, c2, c3, c4⟩ := B0.out.five
    have hs0 := B0.out.lt
    refine wp_region_md_all kdM (by kernel_rfl) (by kernel_rfl) ?_
    (refine wpMd_quietG antiF_post (by kernel_rfl) ?_; intro S hm hk; clear hm hk; go_big_quiet_step (fail); refine wpQuiet_nil ?_)
    (refine wpMd_quietG antiF_post (by kernel_rfl) ?_; intro S hm hk; clear hm hk; go_big_quiet_step (fail); refine wpQuiet_nil ?_)
    refine wpMd_enterG antiF_post 60 #[.int .i64 b] (kdM_up _ _) (by kernel_rfl) (fun x => by go_simp) (fun x hx hd => HDB.out x) ?_
    rintro v ⟨y', hy', n', hn1, rfl⟩ S hm hk
    clear hm hk
    cases hn1
    rw [HBL.out]
    clear y' hy'
    simp only [Act.put, List.setIfInBounds_toArray, List.set_cons_succ, List.set_cons_zero]
    (refine wpMd_quietG antiF_post (by kernel_rfl) ?_; intro S hm hk; clear hm hk; go_big_quiet_step (fail); refine wpQuiet_nil ?_)
    (refine wpMd_quietG antiF_post (by kernel_rfl) ?_; intro S hm hk; clear hm hk; go_big_quiet_step (fail); refine wpQuiet_nil ?_)
    (refine wpMd_quietG antiF_post (by kernel_rfl) ?_; intro S hm hk; clear hm hk; go_big_quiet_step (fail); refine wpQuiet_nil ?_)
    (refine wpMd_quietG antiF_post (by kernel_rfl) ?_; intro S hm hk; clear hm hk; go_big_quiet_step (fail); refine wpQuiet_nil ?_)
    refine wpMd_enterG antiF_post 60 #[.int .i64 f] (kdM_up _ _) (by kernel_rfl) (fun x => by go_simp) (fun x hx hd => HDF.out x) ?_
    rintro v ⟨y', hy', n', hn1, rfl⟩ S hm hk
    clear hm hk
    cases hn1
    rw [HFL.out]
    clear y' hy'
    simp only [Act.put, List.setIfInBounds_toArray, List.set_cons_succ, List.set_cons_zero]
    (refine wpMd_quietG antiF_post (by kernel_rfl) ?_; intro S hm hk; clear hm hk; go_big_quiet_step (fail); refine wpQuiet_nil ?_)
    (refine wpMd_quietG antiF_post (by kernel_rfl) ?_; intro S hm hk; clear hm hk; go_big_quiet_step (fail); refine wpQuiet_nil ?_)
    refine wpMd_row antiF_post #[.string { data := #[102, 108, 111, 111, 114] }, .string { data := #[99, 101, 105, 108] }, .string { data := #[122, 101, 114, 111] }, .string { data := #[101, 118, 101, 110] }] 9 4 (by kernel_rfl) (fun x => by go_simp) ?_
    rintro bk hbk S hm hk
    have HF0 : Hid (∀ x, S 10 x → x.heap[bk]? = some (.cells #[.string { data := #[102, 108, 111, 111, 114] }, .string { data := #[99, 101, 105, 108] }, .string { data := #[122, 101, 114, 111] }, .string { data := #[101, 118, 101, 110] }] 9 (0, 0))) := Lib.hid hk
    clear hm hk hbk
    simp only [Act.put, List.setIfInBounds_toArray, List.set_cons_succ, List.set_cons_zero]
    (refine wpMd_quietG antiF_post (by kernel_rfl) ?_; intro S hm hk; replace HF0 := Lib.hid (fun x hx => HF0.out x (hm _ x hx)); clear hm hk; go_big_quiet_step (fail); refine wpQuiet_nil ?_)
    (refine wpMd_quietG antiF_post (by kernel_rfl) ?_; intro S hm hk; replace HF0 := Lib.hid (fun x hx => HF0.out x (hm _ x hx)); clear hm hk; go_big_quiet_step (fail); refine wpQuiet_nil ?_)
    (refine wpMd_quietG antiF_post (by kernel_rfl) ?_; intro S hm hk; replace HF0 := Lib.hid (fun x hx => HF0.out x (hm _ x hx)); clear hm hk; go_big_quiet_step (fail); refine wpQuiet_nil ?_)
    (refine wpMd_quietG antiF_post (by kernel_rfl) ?_; intro S hm hk; have HF : Hid (∀ x, S 14 x → x.heap[bk]? = some (.cells #[.string { data := #[102, 108, 111, 111, 114] }, .string { data := #[99, 101, 105, 108] }, .string { data := #[122, 101, 114, 111] }, .string { data := #[101, 118, 101, 110] }] 9 (0, 0))) := Lib.hid (fun x hx => HF0.out x (hk x hx { on := 10, ground := Ground.data } (by simp) rfl)); clear hm hk HF0; go_big_quiet_step (fail); refine wpQuiet_nil ?_)
    refine wpMd_readG antiF_post (.string { data := #[101, 118, 101, 110] }) (by kernel_rfl) (fun x hx hd => by
      have hh := HF.out x (hd { on := 14, ground := Ground.data } (by simp) rfl)
      have cc : x.cell? ⟨bk, 3, none⟩ = some (.string { data := #[101, 118, 101, 110] }) := cell_of_row _ _ _ _ _ _ hh
      clear hd hh
      go_simp) ?_
    intro S hm
    clear hm HF
    simp only [Act.put, List.setIfInBounds_toArray, List.set_cons_succ, List.set_cons_zero]
    (refine wpMd_quietG antiF_post (by kernel_rfl) ?_; intro S hm hk; clear hm hk; go_big_quiet_step (fail); refine wpQuiet_nil ?_)
    (refine wpMd_quietG antiF_post (by kernel_rfl) ?_; intro S hm hk; clear hm hk; go_big_quiet_step (fail); refine wpQuiet_nil ?_)
    refine wpMd_row antiF_post #[.string { data := #[115, 97, 116] }, .string { data := #[119, 114, 97, 112] }] 9 2 (by kernel_rfl) (fun x => by go_simp) ?_
    rintro bk hbk S hm hk
    have HF0 : Hid (∀ x, S 18 x → x.heap[bk]? = some (.cells #[.string { data := #[115, 97, 116] }, .string { data := #[119, 114, 97, 112] }] 9 (0, 0))) := Lib.hid hk
    clear hm hk hbk
    simp only [Act.put, List.setIfInBounds_toArray, List.set_cons_succ, List.set_cons_zero]
    (refine wpMd_quietG antiF_post (by kernel_rfl) ?_; intro S hm hk; replace HF0 := Lib.hid (fun x hx => HF0.out x (hm _ x hx)); clear hm hk; go_big_quiet_step (fail); refine wpQuiet_nil ?_)
    (refine wpMd_quietG antiF_post (by kernel_rfl) ?_; intro S hm hk; replace HF0 := Lib.hid (fun x hx => HF0.out x (hm _ x hx)); clear hm hk; go_big_quiet_step (fail); refine wpQuiet_nil ?_)
    (refine wpMd_quietG antiF_post (by kernel_rfl) ?_; intro S hm hk; replace HF0 := Lib.hid (fun x hx => HF0.out x (hm _ x hx)); clear hm hk; go_big_quiet_step (fail); refine wpQuiet_nil ?_)
    (refine wpMd_quietG antiF_post (by kernel_rfl) ?_; intro S hm hk; have HF : Hid (∀ x, S 22 x → x.heap[bk]? = some (.cells #[.string { data := #[115, 97, 116] }, .string { data := #[119, 114, 97, 112] }] 9 (0, 0))) := Lib.hid (fun x hx => HF0.out x (hk x hx { on := 18, ground := Ground.data } (by simp) rfl)); clear hm hk HF0; go_big_quiet_step (fail); refine wpQuiet_nil ?_)
    refine wpMd_readG antiF_post (.string { data := #[115, 97, 116] }) (by kernel_rfl) (fun x hx hd => by
      have hh := HF.out x (hd { on := 22, ground := Ground.data } (by simp) rfl)
      have cc : x.cell? ⟨bk, 0, none⟩ = some (.string { data := #[115, 97, 116] }) := cell_of_row _ _ _ _ _ _ hh
      clear hd hh
      go_simp) ?_
    intro S hm
    clear hm HF
    simp only [Act.put, List.setIfInBounds_toArray, List.set_cons_succ, List.set_cons_zero]
    (refine wpMd_quietG antiF_post (by kernel_rfl) ?_; intro S hm hk; clear hm hk; go_big_quiet_step (fail); refine wpQuiet_nil ?_)
    (refine wpMd_quietG antiF_post (by kernel_rfl) ?_; intro S hm hk; clear hm hk; go_big_quiet_step (fail); refine wpQuiet_nil ?_)
    refine wpMd_nil ?_
    intro x hx _
    go_wp2
    go_ret
    exact ⟨rfl, HU.out.trans hx⟩
  · have k1 := cat (A := ⟨#[102, 105, 120, 32]⟩) (B := bst bl) (a := [102, 105, 120, 32]) rfl rfl rfl (by decide) (by omega)
    obtain ⟨s1, hs1⟩ : ∃ s, [102, 105, 120, 32] ++ bl = s := ⟨_, rfl⟩
    have l1 : s1.length ≤ 100 := by rw [← hs1]; simp; omega
    have k2 := cat (A := bst s1) (B := ⟨#[32]⟩) (b := [32]) rfl rfl rfl (by omega) (by decide)
    obtain ⟨s2, hs2⟩ : ∃ s, s1 ++ [32] = s := ⟨_, rfl⟩
    have l2 : s2.length ≤ 101 := by rw [← hs2]; simp; omega
    have k3 := cat (A := bst s2) (B := bst fl) rfl rfl rfl (by omega) (by omega)
    obtain ⟨s3, hs3⟩ : ∃ s, s2 ++ fl = s := ⟨_, rfl⟩
    have l3 : s3.length ≤ 200 := by rw [← hs3]; simp; omega
    have k4 := cat (A := bst s3) (B := ⟨#[32]⟩) (b := [32]) rfl rfl rfl (by omega) (by decide)
    obtain ⟨s4, hs4⟩ : ∃ s, s3 ++ [32] = s := ⟨_, rfl⟩
    have l4 : s4.length ≤ 201 := by rw [← hs4]; simp; omega
    have k5 := cat (A := bst s4) (B := ⟨#[101, 118, 101, 110]⟩) (b := [101, 118, 101, 110]) rfl rfl rfl (by omega) (by decide)
    obtain ⟨s5, hs5⟩ : ∃ s, s4 ++ [101, 118, 101, 110] = s := ⟨_, rfl⟩
    have l5 : s5.length ≤ 300 := by rw [← hs5]; simp; omega
    have k6 := cat (A := bst s5) (B := ⟨#[32]⟩) (b := [32]) rfl rfl rfl (by omega) (by decide)
    obtain ⟨s6, hs6⟩ : ∃ s, s5 ++ [32] = s := ⟨_, rfl⟩
    have l6 : s6.length ≤ 301 := by rw [← hs6]; simp; omega
    have k7 := cat (A := bst s6) (B := ⟨#[119, 114, 97, 112]⟩) (b := [119, 114, 97, 112]) rfl rfl rfl (by omega) (by decide)
    have HS : Hid (s6 ++ [119, 114, 97, 112] = T) := Lib.hid (by rw [← HE.out, ← hs6, ← hs5, ← hs4, ← hs3, ← hs2, ← hs1]; rfl)
    rw [hs1] at k1
    rw [hs2] at k2
    rw [hs3] at k3
    rw [hs4] at k4
    rw [hs5] at k5
    rw [hs6] at k6
    rw [HS.out] at k7
    clear hs1 hs2 hs3 hs4 hs5 hs6 l1 l2 l3 l4 l5 l6 lb lf HE
    go_enter Tryz.func61, Tryz.ntmps61
    go_upto_region 5 with (fail)
    generalize w.alloc (.cells #[.int .i64 2, .int .i64 b, .int .i64 f, .int .i64 4, .int .i64 2] 40) = y at *
    obtain ⟨c0, c1, c2, c3, c4⟩ := B0.out.five
    have hs0 := B0.out.lt
    refine wp_region_md_all kdM (by kernel_rfl) (by kernel_rfl) ?_
    (refine wpMd_quietG antiF_post (by kernel_rfl) ?_; intro S hm hk; clear hm hk; go_big_quiet_step (fail); refine wpQuiet_nil ?_)
    (refine wpMd_quietG antiF_post (by kernel_rfl) ?_; intro S hm hk; clear hm hk; go_big_quiet_step (fail); refine wpQuiet_nil ?_)
    refine wpMd_enterG antiF_post 60 #[.int .i64 b] (kdM_up _ _) (by kernel_rfl) (fun x => by go_simp) (fun x hx hd => HDB.out x) ?_
    rintro v ⟨y', hy', n', hn1, rfl⟩ S hm hk
    clear hm hk
    cases hn1
    rw [HBL.out]
    clear y' hy'
    simp only [Act.put, List.setIfInBounds_toArray, List.set_cons_succ, List.set_cons_zero]
    (refine wpMd_quietG antiF_post (by kernel_rfl) ?_; intro S hm hk; clear hm hk; go_big_quiet_step (fail); refine wpQuiet_nil ?_)
    (refine wpMd_quietG antiF_post (by kernel_rfl) ?_; intro S hm hk; clear hm hk; go_big_quiet_step (fail); refine wpQuiet_nil ?_)
    (refine wpMd_quietG antiF_post (by kernel_rfl) ?_; intro S hm hk; clear hm hk; go_big_quiet_step (fail); refine wpQuiet_nil ?_)
    (refine wpMd_quietG antiF_post (by kernel_rfl) ?_; intro S hm hk; clear hm hk; go_big_quiet_step (fail); refine wpQuiet_nil ?_)
    refine wpMd_enterG antiF_post 60 #[.int .i64 f] (kdM_up _ _) (by kernel_rfl) (fun x => by go_simp) (fun x hx hd => HDF.out x) ?_
    rintro v ⟨y', hy', n', hn1, rfl⟩ S hm hk
    clear hm hk
    cases hn1
    rw [HFL.out]
    clear y' hy'
    simp only [Act.put, List.setIfInBounds_toArray, List.set_cons_succ, List.set_cons_zero]
    (refine wpMd_quietG antiF_post (by kernel_rfl) ?_; intro S hm hk; clear hm hk; go_big_quiet_step (fail); refine wpQuiet_nil ?_)
    (refine wpMd_quietG antiF_post (by kernel_rfl) ?_; intro S hm hk; clear hm hk; go_big_quiet_step (fail); refine wpQuiet_nil ?_)
    refine wpMd_row antiF_post #[.string { data := #[102, 108, 111, 111, 114] }, .string { data := #[99, 101, 105, 108] }, .string { data := #[122, 101, 114, 111] }, .string { data := #[101, 118, 101, 110] }] 9 4 (by kernel_rfl) (fun x => by go_simp) ?_
    rintro bk hbk S hm hk
    have HF0 : Hid (∀ x, S 10 x → x.heap[bk]? = some (.cells #[.string { data := #[102, 108, 111, 111, 114] }, .string { data := #[99, 101, 105, 108] }, .string { data := #[122, 101, 114, 111] }, .string { data := #[101, 118, 101, 110] }] 9 (0, 0))) := Lib.hid hk
    clear hm hk hbk
    simp only [Act.put, List.setIfInBounds_toArray, List.set_cons_succ, List.set_cons_zero]
    (refine wpMd_quietG antiF_post (by kernel_rfl) ?_; intro S hm hk; replace HF0 := Lib.hid (fun x hx => HF0.out x (hm _ x hx)); clear hm hk; go_big_quiet_step (fail); refine wpQuiet_nil ?_)
    (refine wpMd_quietG antiF_post (by kernel_rfl) ?_; intro S hm hk; replace HF0 := Lib.hid (fun x hx => HF0.out x (hm _ x hx)); clear hm hk; go_big_quiet_step (fail); refine wpQuiet_nil ?_)
    (refine wpMd_quietG antiF_post (by kernel_rfl) ?_; intro S hm hk; replace HF0 := Lib.hid (fun x hx => HF0.out x (hm _ x hx)); clear hm hk; go_big_quiet_step (fail); refine wpQuiet_nil ?_)
    (refine wpMd_quietG antiF_post (by kernel_rfl) ?_; intro S hm hk; have HF : Hid (∀ x, S 14 x → x.heap[bk]? = some (.cells #[.string { data := #[102, 108, 111, 111, 114] }, .string { data := #[99, 101, 105, 108] }, .string { data := #[122, 101, 114, 111] }, .string { data := #[101, 118, 101, 110] }] 9 (0, 0))) := Lib.hid (fun x hx => HF0.out x (hk x hx { on := 10, ground := Ground.data } (by simp) rfl)); clear hm hk HF0; go_big_quiet_step (fail); refine wpQuiet_nil ?_)
    refine wpMd_readG antiF_post (.string { data := #[101, 118, 101, 110] }) (by kernel_rfl) (fun x hx hd => by
      have hh := HF.out x (hd { on := 14, ground := Ground.data } (by simp) rfl)
      have cc : x.cell? ⟨bk, 3, none⟩ = some (.string { data := #[101, 118, 101, 110] }) := cell_of_row _ _ _ _ _ _ hh
      clear hd hh
      go_simp) ?_
    intro S hm
    clear hm HF
    simp only [Act.put, List.setIfInBounds_toArray, List.set_cons_succ, List.set_cons_zero]
    (refine wpMd_quietG antiF_post (by kernel_rfl) ?_; intro S hm hk; clear hm hk; go_big_quiet_step (fail); refine wpQuiet_nil ?_)
    (refine wpMd_quietG antiF_post (by kernel_rfl) ?_; intro S hm hk; clear hm hk; go_big_quiet_step (fail); refine wpQuiet_nil ?_)
    refine wpMd_row antiF_post #[.string { data := #[115, 97, 116] }, .string { data := #[119, 114, 97, 112] }] 9 2 (by kernel_rfl) (fun x => by go_simp) ?_
    rintro bk hbk S hm hk
    have HF0 : Hid (∀ x, S 18 x → x.heap[bk]? = some (.cells #[.string { data := #[115, 97, 116] }, .string { data := #[119, 114, 97, 112] }] 9 (0, 0))) := Lib.hid hk
    clear hm hk hbk
    simp only [Act.put, List.setIfInBounds_toArray, List.set_cons_succ, List.set_cons_zero]
    (refine wpMd_quietG antiF_post (by kernel_rfl) ?_; intro S hm hk; replace HF0 := Lib.hid (fun x hx => HF0.out x (hm _ x hx)); clear hm hk; go_big_quiet_step (fail); refine wpQuiet_nil ?_)
    (refine wpMd_quietG antiF_post (by kernel_rfl) ?_; intro S hm hk; replace HF0 := Lib.hid (fun x hx => HF0.out x (hm _ x hx)); clear hm hk; go_big_quiet_step (fail); refine wpQuiet_nil ?_)
    (refine wpMd_quietG antiF_post (by kernel_rfl) ?_; intro S hm hk; replace HF0 := Lib.hid (fun x hx => HF0.out x (hm _ x hx)); clear hm hk; go_big_quiet_step (fail); refine wpQuiet_nil ?_)
    (refine wpMd_quietG antiF_post (by kernel_rfl) ?_; intro S hm hk; have HF : Hid (∀ x, S 22 x → x.heap[bk]? = some (.cells #[.string { data := #[115, 97, 116] }, .string { data := #[119, 114, 97, 112] }] 9 (0, 0))) := Lib.hid (fun x hx => HF0.out x (hk x hx { on := 18, ground := Ground.data } (by simp) rfl)); clear hm hk HF0; go_big_quiet_step (fail); refine wpQuiet_nil ?_)
    refine wpMd_readG antiF_post (.string { data := #[119, 114, 97, 112] }) (by kernel_rfl) (fun x hx hd => by
      have hh := HF.out x (hd { on := 22, ground := Ground.data } (by simp) rfl)
      have cc : x.cell? ⟨bk, 1, none⟩ = some (.string { data := #[119, 114, 97, 112] }) := cell_of_row _ _ _ _ _ _ hh
      clear hd hh
      go_simp) ?_
    intro S hm
    clear hm HF
    simp only [Act.put, List.setIfInBounds_toArray, List.set_cons_succ, List.set_cons_zero]
    (refine wpMd_quietG antiF_post (by kernel_rfl) ?_; intro S hm hk; clear hm hk; go_big_quiet_step (fail); refine wpQuiet_nil ?_)
    (refine wpMd_quietG antiF_post (by kernel_rfl) ?_; intro S hm hk; clear hm hk; go_big_quiet_step (fail); refine wpQuiet_nil ?_)
    refine wpMd_nil ?_
    intro x hx _
    go_wp2
    go_ret
    exact ⟨rfl, HU.out.trans hx⟩
end Go.Proofs.YtlglfdhiopnglaaGreatDoor
