/-
  The walk of DepgraphReachable.
-/
import Derived.Test.YtpccaifhcmcegaaDgLh
import Derived.Test.YtpccaifhcmcegaaGb
namespace Go.Proofs.Ytpccaifhcmcegaa.depgraphReachable
set_option linter.unusedSimpArgs false
open Go.ChangeShapes Go.WideShapes Go.ChangeAt Go.RowKit
set_option linter.unusedVariables false
set_option maxRecDepth 100000

def MM (A : List ByteArray) (f : FuncId) (_ : Array Value) (v : Value) (x : World) : Prop := ((f = 16 ∨ f = 17) → LsAt 1 16 strR x v A) ∧ ((f = 11 ∨ f = 10) → v = .bool true)
theorem MM_up {A : List ByteArray} (f : FuncId) (args : Array Value) (v : Value) (x y : World) (h : MM A f args v x) (u : Up x y) : MM A f args v y := ⟨fun e => (h.1 e).up strR_up u, h.2⟩
theorem MM_true {A : List ByteArray} {f : FuncId} {args : Array Value} {x : World} (h : f = 11 ∨ f = 10) : MM A f args (.bool true) x := ⟨fun e => by rcases h with h | h <;> rcases e with e | e <;> (rw [h] at e; cases e), fun _ => rfl⟩
theorem MM_a {A : List ByteArray} {f : FuncId} {args : Array Value} {v : Value} {x : World} (h : f = 16 ∨ f = 17) (hl : LsAt 1 16 strR x v A) : MM A f args v x := ⟨fun _ => hl, fun e => by rcases h with h | h <;> rcases e with e | e <;> (rw [h] at e; cases e)⟩
set_option maxHeartbeats 16000000 in
theorem walk (w : World) {v nv : Value} {x : Nat × Pg} {names : List ByteArray} (hv : ProgAt x.1 w v x.2) (hnv : LsAt 1 16 strR w nv names) : Calls Try.prog 4 #[v, nv] w fun e w' => e = .returned (.bool true) ∧ Below w.heap.size w w' := by
  obtain ⟨N, p⟩ := x
  dsimp only at hv
  obtain ⟨na, nc, rfl, -⟩ := hnv.shape
  obtain ⟨nn, hnn⟩ : ∃ q, names.length = q := ⟨_, rfl⟩
  rw [hnn] at hnv ⊢
  have hnI : (nn : Int) ≤ 140737488351232 := by have := hnv.bytes; rw [hnn] at this; omega
  have HNV := Lib.hid hnv
  have HNN := Lib.hid hnn
  clear hnv hnn
  have HPX := Lib.hid (fun y (hy : Up w y) => hv.up hy)
  have HSMA := Lib.hid (fun y (hy : Up w y) => law_Small N p v y (hv.up hy))
  obtain ⟨v0, v1, v2, v3, v4, rfl, -⟩ := id hv
  have HU0 := Lib.hid ((Up.refl w).alloc (.cells #[v0, v1, v2, v3, v4] 27))
  have HB0 := Lib.hid (BoxC.new w 27 #[v0, v1, v2, v3, v4])
  have HLP := Lib.hid (fun y (hy : Up (w.alloc (.cells #[v0, v1, v2, v3, v4] 27)) y) => run_cs (P := Try.prog) Try.underlying27 rfl prog_info (cs := #[v0, v1, v2, v3, v4]) rfl (HB0.out.up hy).range)
  have HEX := Lib.hid (fun y => law_examples y)
  have HL0 := Lib.hid (HLP.out _ (Up.refl _))
  clear hv
  go_enter Try.func4, Try.ntmps4
  go_wp2_with (refine st_load HL0.out (by rfl) ?_)
  refine (HSMA.out _ HU0.out).mono ?_
  rintro e' W1 ⟨b, rfl, hy, hsp⟩
  have HV1 := Lib.hid hy
  have HSP := Lib.hid hsp
  clear hy hsp
  cases b
  · go_wp2_with (go_at_call 10; (with_reducible refine (HEX.out W1).mono ?_); rintro e' W2 ⟨rfl, hy⟩; have HV2 := Lib.hid hy; clear hy)
    go_ret
    exact ⟨rfl, (HU0.out.trans HV1.out).trans HV2.out⟩
  · have hsm := HSP.out rfl
    by_cases h40 : nn ≤ 40
    · have h40I : (nn : Int) ≤ 40 := by omega
      have HR1 := Lib.hid (fun y (hy : Up w y) => p_Reachable N p _ _ names y (HPX.out _ hy) (HNV.out.up strR_up hy) (by rw [HNN.out]; exact h40) (small_tot hsm) ⟨hsm.pars, hsm.defs⟩)
      have HR2 := Lib.hid (fun y (hy : Up w y) => r20_Reachable N p _ _ names y (HPX.out _ hy) (HNV.out.up strR_up hy) (small_tot hsm) ⟨hsm.pars, hsm.defs⟩)
      obtain ⟨A, hA⟩ : ∃ q, rchF p names = q := ⟨_, rfl⟩
      rw [hA] at HR1 HR2
      clear hsm hA
      have HUW := Lib.hid (HU0.out.trans HV1.out)
      have HBP := Lib.hid (HB0.out.up HV1.out)
      obtain ⟨a0, a1, a2, a3, a4⟩ := HBP.out.five
      have asz := HBP.out.lt
      go_upto_region 3 with (fail)
      refine wp_region_md_all (MM A) (by kernel_rfl) (by kernel_rfl) ?_
      try simp only [Act.put]
      (refine wpMd_quietG antiF_post (by kernel_rfl) ?_; intro S hm hk; clear hm hk; go_big_quiet_step (fail); refine wpQuiet_nil ?_)
      (refine wpMd_quietG antiF_post (by kernel_rfl) ?_; intro S hm hk; clear hm hk; go_big_quiet_step (fail); refine wpQuiet_nil ?_)
      refine wpMd_enterG antiF_post 16 #[.agg #[v0, v1, v2, v3, v4], .slice na nn nc] (MM_up _ _) (by kernel_rfl) (fun x => by go_simp) (fun x hx hd => (HR1.out x (HUW.out.trans hx)).mono fun e w' ⟨u, h1, h2, h3⟩ => ⟨_, h1, h2, MM_a (.inl rfl) h3.1⟩) ?_
      rintro u1 - S hm hk
      have HF2 := Lib.hid (fun x hx => (hk x hx).1.1 (.inl rfl))
      clear hm hk
      simp only [Act.put, List.setIfInBounds_toArray, List.set_cons_succ, List.set_cons_zero]
      (refine wpMd_quietG antiF_post (by kernel_rfl) ?_; intro S hm hk; replace HF2 := Lib.hid (fun x hx => HF2.out x (hm _ x hx)); clear hm hk; go_big_quiet_step (fail); refine wpQuiet_nil ?_)
      (refine wpMd_quietG antiF_post (by kernel_rfl) ?_; intro S hm hk; replace HF2 := Lib.hid (fun x hx => HF2.out x (hm _ x hx)); clear hm hk; go_big_quiet_step (fail); refine wpQuiet_nil ?_)
      refine wpMd_enterG antiF_post 17 #[.agg #[v0, v1, v2, v3, v4], .slice na nn nc] (MM_up _ _) (by kernel_rfl) (fun x => by go_simp) (fun x hx hd => (HR2.out x (HUW.out.trans hx)).mono fun e w' ⟨u, h1, h2, h3⟩ => ⟨_, h1, h2, MM_a (.inr rfl) h3.1⟩) ?_
      rintro u2 - S hm hk
      replace HF2 := Lib.hid (fun x hx => HF2.out x (hm _ x hx)); have HF5 := Lib.hid (fun x hx => (hk x hx).1.1 (.inr rfl))
      clear hm hk
      simp only [Act.put, List.setIfInBounds_toArray, List.set_cons_succ, List.set_cons_zero]
      refine wpMd_enterG antiF_post 11 #[u1, u2] (MM_up _ _) (by kernel_rfl) (fun x => by go_simp) (fun x hx hd => (base_Strings u1 u2 A A x (HF2.out x (hd { on := 2, ground := Ground.data } (by simp) rfl)) (HF5.out x (hd { on := 5, ground := Ground.data } (by simp) rfl)) true (decide_eq_true rfl)).mono fun e w' ⟨h1, h2⟩ => ⟨_, h1, h2, MM_true (.inl rfl)⟩) ?_
      rintro u3 ⟨y3, -, huu3⟩ S hm hk
      obtain rfl := huu3.2 (.inl rfl)
      clear hm hk
      simp only [Act.put, List.setIfInBounds_toArray, List.set_cons_succ, List.set_cons_zero]
      clear HF2 HF5
      (refine wpMd_quietG antiF_post (by kernel_rfl) ?_; intro S hm hk; clear hm hk; go_big_quiet_step (fail); refine wpQuiet_nil ?_)
      refine wpMd_enterG antiF_post 10 #[] (MM_up _ _) (by kernel_rfl) (fun x => by go_simp) (fun x hx hd => (HEX.out x).mono fun e w' ⟨h1, h2⟩ => ⟨_, h1, h2, MM_true (.inr rfl)⟩) ?_
      rintro u7 ⟨y7, -, huu7⟩ S hm hk
      obtain rfl := huu7.2 (.inr rfl)
      clear hm hk
      simp only [Act.put, List.setIfInBounds_toArray, List.set_cons_succ, List.set_cons_zero]
      (refine wpMd_quietG antiF_post (by kernel_rfl) ?_; intro S hm hk; clear hm hk; go_big_quiet_step (fail); refine wpQuiet_nil ?_)
      (refine wpMd_quietG antiF_post (by kernel_rfl) ?_; intro S hm hk; clear hm hk; go_big_quiet_step (fail); refine wpQuiet_nil ?_)
      refine wpMd_nil ?_
      intro z hz hS
      have HZ := Lib.hid hz
      clear hz hS a0 a1 a2 a3 a4 asz
      go_wp2
      go_ret
      exact ⟨rfl, HUW.out.trans HZ.out⟩
    · have h40I : (40 : Int) < nn := by omega
      go_wp2_with (go_at_call 10; (with_reducible refine (HEX.out W1).mono ?_); rintro e' W2 ⟨rfl, hy⟩; have HV2 := Lib.hid hy; clear hy)
      go_ret
      exact ⟨rfl, (HU0.out.trans HV1.out).trans HV2.out⟩
end Go.Proofs.Ytpccaifhcmcegaa.depgraphReachable
