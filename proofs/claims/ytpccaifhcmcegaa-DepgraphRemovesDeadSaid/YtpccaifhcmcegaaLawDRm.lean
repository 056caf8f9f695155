/-
  The walk of DepgraphRemovesDead.
-/
import Derived.Test.YtpccaifhcmcegaaDgLh
import Derived.Test.YtpccaifhcmcegaaGb
namespace Go.Proofs.Ytpccaifhcmcegaa.depgraphRemovesDead
set_option linter.unusedSimpArgs false
open Go.ChangeShapes Go.WideShapes Go.ChangeAt Go.RowKit
set_option linter.unusedVariables false
set_option maxRecDepth 100000

def rmM (N : Nat) (Q : Pg) (f : FuncId) (_ : Array Value) (v : Value) (x : World) : Prop := ((f = 20 ∨ f = 22) → ProgAt N x v Q) ∧ ((f = 21 ∨ f = 10) → v = .bool true)
theorem rmM_up (N : Nat) (Q : Pg) (f : FuncId) (args : Array Value) (v : Value) (x y : World) (h : rmM N Q f args v x) (u : Up x y) : rmM N Q f args v y := ⟨fun e => (h.1 e).up u, h.2⟩
set_option maxHeartbeats 16000000 in
theorem walk (w : World) {v : Value} {x : Nat × Pg} (hv : ProgAt x.1 w v x.2) : Calls Try.prog 6 #[v] w fun e w' => e = .returned (.bool true) ∧ Below w.heap.size w w' := by
  obtain ⟨N, p⟩ := x
  dsimp only at hv
  have HPX := Lib.hid (fun y (hy : Up w y) => hv.up hy)
  have HSMA := Lib.hid (fun y (hy : Up w y) => law_Small N p v y (hv.up hy))
  obtain ⟨v0, v1, v2, v3, v4, rfl, -⟩ := id hv
  have HU0 := Lib.hid ((Up.refl w).alloc (.cells #[v0, v1, v2, v3, v4] 27))
  have HB0 := Lib.hid (BoxC.new w 27 #[v0, v1, v2, v3, v4])
  have HLP := Lib.hid (fun y (hy : Up (w.alloc (.cells #[v0, v1, v2, v3, v4] 27)) y) => run_cs (P := Try.prog) Try.underlying27 rfl prog_info (cs := #[v0, v1, v2, v3, v4]) rfl (HB0.out.up hy).range)
  have HEX := Lib.hid (fun y => law_examples y)
  have HL0 := Lib.hid (HLP.out _ (Up.refl _))
  clear hv
  go_enter Try.func6, Try.ntmps6
  go_wp2_with (refine st_load HL0.out (by rfl) ?_)
  refine (HSMA.out _ HU0.out).mono ?_
  rintro e' W1 ⟨b, rfl, hy, hsp⟩
  have HV1 := Lib.hid hy
  have HSP := Lib.hid hsp
  clear hy hsp
  cases b
  · go_wp2_with (go_at_call 10; (with_reducible refine (HEX.out W1).mono ?_); rintro e' W2 ⟨rfl, hy⟩; have HV2 := Lib.hid hy; clear hy)
    go_ret
    exact ⟨rfl, (HU0.out.trans HV1.out).trans HV2.out⟩
  · have hsm := HSP.out rfl
    have hps : p.pars.length ≤ 40 ∧ p.defs.length ≤ 40 := ⟨hsm.pars, hsm.defs⟩
    have HR1 := Lib.hid (p_RemoveDead N p _ W1 (HPX.out _ (HU0.out.trans HV1.out)) (small_tot hsm) hps hsm.outs)
    have HR2 := Lib.hid (fun y (hy : Up w y) => r20_RemoveDead N p _ y (HPX.out _ hy) (small_tot hsm) hps)
    have HRQ := Lib.hid (fun u y (h : ProgAt N y u (rmF p)) => p_RemoveDead N (rmF p) u y h (fun d hd => small_tot hsm d (rmF_mem hd)) ⟨hsm.pars, Nat.le_trans (rmF_defs_le p) hsm.defs⟩ hsm.outs)
    rw [rmF_idem] at HRQ
    have HL1 := Lib.hid (HLP.out _ HV1.out)
    obtain ⟨Q, hQ⟩ : ∃ q, rmF p = q := ⟨_, rfl⟩
    rw [hQ] at HR1 HR2 HRQ
    clear hsm hps hQ
    go_upto_region 4 with (first
      | (refine st_load HL1.out (by rfl) ?_)
      | (go_at_call 20; (with_reducible refine HR1.out.mono ?_); rintro e' W2 ⟨u, rfl, hy, hp⟩; have HP2 := Lib.hid hp; obtain ⟨q0, q1, q2, q3, q4, rfl, -⟩ := id hp; have HV2 := Lib.hid (HV1.out.trans hy); have HF2 := Lib.hid (run_fill (P := Try.prog) prog_info W2 (Z := #[.slice none 0 0, .slice none 0 0, .slice none 0 0, .slice none 0 0, .slice none 0 0]) (cs := #[q0, q1, q2, q3, q4]) rfl rfl (progAt_one HP2.out)); clear hp hy)
      | (refine st_store HF2.out (by rfl) (by rfl) ?_))
    have HB3 := Lib.hid (BoxC.new W2 27 #[q0, q1, q2, q3, q4])
    have HA3 := Lib.hid ((Up.refl W2).alloc (.cells #[q0, q1, q2, q3, q4] 27))
    obtain ⟨W3, hW⟩ : ∃ W, W2.alloc (.cells #[q0, q1, q2, q3, q4] 27) = W := ⟨_, rfl⟩
    rw [hW] at HB3 HA3 ⊢
    have HV3 := Lib.hid (HV2.out.trans HA3.out)
    have HBP := Lib.hid (HB0.out.up HV3.out)
    have HPQ := Lib.hid (HP2.out.up HA3.out)
    obtain ⟨a0, a1, a2, a3, a4⟩ := HBP.out.five
    obtain ⟨b0, b1, b2, b3, b4⟩ := HB3.out.five
    have asz := HBP.out.lt
    have bs := HB3.out.lt
    clear hW HF2 HR1 HL1 HP2
    refine wp_region_md_all (rmM N Q) (by kernel_rfl) (by kernel_rfl) ?_
    simp only [Act.put]
    (refine wpMd_quietG antiF_post (by kernel_rfl) ?_; intro S hm hk; clear hm hk; go_big_quiet_step (fail); refine wpQuiet_nil ?_)
    (refine wpMd_quietG antiF_post (by kernel_rfl) ?_; intro S hm hk; clear hm hk; go_big_quiet_step (fail); refine wpQuiet_nil ?_)
    refine wpMd_enterG antiF_post 22 #[.agg #[v0, v1, v2, v3, v4]] (rmM_up _ _ _ _) (by kernel_rfl) (fun x => by go_simp) (fun x hx hd => (HR2.out x ((HU0.out.trans HV3.out).trans hx)).mono fun e w' ⟨u, h1, h2, h3⟩ => ⟨_, h1, h2, fun _ => h3, fun e => by rcases e with e | e <;> cases e⟩) ?_
    rintro u1 - S hm hk
    have HF2 := Lib.hid (fun x hx => (hk x hx).1.1 (.inr rfl))
    clear hm hk
    simp only [Act.put, List.setIfInBounds_toArray, List.set_cons_succ, List.set_cons_zero]
    refine wpMd_enterG antiF_post 21 #[.agg #[q0, q1, q2, q3, q4], u1] (rmM_up _ _ _ _) (by kernel_rfl) (fun x => by go_simp) (fun x hx hd => (base_Prog N x _ _ Q (HPQ.out.up hx) (HF2.out x (hd { on := 2, ground := Ground.data } (by simp) rfl))).mono fun e w' ⟨h1, h2⟩ => ⟨_, h1, h2, (fun e => by rcases e with e | e <;> cases e), fun _ => rfl⟩) ?_
    rintro u2 ⟨y, -, -, hu2⟩ S hm hk
    obtain rfl := hu2 (.inl rfl)
    clear hm hk HF2
    simp only [Act.put, List.setIfInBounds_toArray, List.set_cons_succ, List.set_cons_zero]
    (refine wpMd_quietG antiF_post (by kernel_rfl) ?_; intro S hm hk; clear hm hk; go_big_quiet_step (fail); refine wpQuiet_nil ?_)
    (refine wpMd_quietG antiF_post (by kernel_rfl) ?_; intro S hm hk; clear hm hk; go_big_quiet_step (fail); refine wpQuiet_nil ?_)
    refine wpMd_enterG antiF_post 20 #[.agg #[q0, q1, q2, q3, q4]] (rmM_up _ _ _ _) (by kernel_rfl) (fun x => by go_simp) (fun x hx hd => (HRQ.out _ x (HPQ.out.up hx)).mono fun e w' ⟨u, h1, h2, h3⟩ => ⟨_, h1, h2, fun _ => h3, fun e => by rcases e with e | e <;> cases e⟩) ?_
    rintro u3 - S hm hk
    have HF6 := Lib.hid (fun x hx => (hk x hx).1.1 (.inl rfl))
    clear hm hk
    simp only [Act.put, List.setIfInBounds_toArray, List.set_cons_succ, List.set_cons_zero]
    (refine wpMd_quietG antiF_post (by kernel_rfl) ?_; intro S hm hk; replace HF6 := Lib.hid (fun x hx => HF6.out x (hm _ x hx)); clear hm hk; go_big_quiet_step (fail); refine wpQuiet_nil ?_)
    refine wpMd_enterG antiF_post 21 #[u3, .agg #[q0, q1, q2, q3, q4]] (rmM_up _ _ _ _) (by kernel_rfl) (fun x => by go_simp) (fun x hx hd => (base_Prog N x _ _ Q (HF6.out x (hd { on := 6, ground := Ground.data } (by simp) rfl)) (HPQ.out.up hx)).mono fun e w' ⟨h1, h2⟩ => ⟨_, h1, h2, (fun e => by rcases e with e | e <;> cases e), fun _ => rfl⟩) ?_
    rintro u4 ⟨y4, -, -, hu4⟩ S hm hk
    obtain rfl := hu4 (.inl rfl)
    clear hm hk HF6
    simp only [Act.put, List.setIfInBounds_toArray, List.set_cons_succ, List.set_cons_zero]
    (refine wpMd_quietG antiF_post (by kernel_rfl) ?_; intro S hm hk; clear hm hk; go_big_quiet_step (fail); refine wpQuiet_nil ?_)
    (refine wpMd_quietG antiF_post (by kernel_rfl) ?_; intro S hm hk; clear hm hk; go_big_quiet_step (fail); refine wpQuiet_nil ?_)
    refine wpMd_enterG antiF_post 10 #[] (rmM_up _ _ _ _) (by kernel_rfl) (fun x => by go_simp) (fun x hx hd => (HEX.out x).mono fun e w' ⟨h1, h2⟩ => ⟨_, h1, h2, (fun e => by rcases e with e | e <;> cases e), fun _ => rfl⟩) ?_
    rintro u5 ⟨y5, -, -, hu5⟩ S hm hk
    obtain rfl := hu5 (.inr rfl)
    clear hm hk
    simp only [Act.put, List.setIfInBounds_toArray, List.set_cons_succ, List.set_cons_zero]
    (refine wpMd_quietG antiF_post (by kernel_rfl) ?_; intro S hm hk; clear hm hk; go_big_quiet_step (fail); refine wpQuiet_nil ?_)
    (refine wpMd_quietG antiF_post (by kernel_rfl) ?_; intro S hm hk; clear hm hk; go_big_quiet_step (fail); refine wpQuiet_nil ?_)
    refine wpMd_nil ?_
    intro z hz hS
    have HZ := Lib.hid hz
    clear hz hS a0 a1 a2 a3 a4 b0 b1 b2 b3 b4 asz bs
    go_wp2
    go_ret
    exact ⟨rfl, (HU0.out.trans HV3.out).trans HZ.out⟩
end Go.Proofs.Ytpccaifhcmcegaa.depgraphRemovesDead
