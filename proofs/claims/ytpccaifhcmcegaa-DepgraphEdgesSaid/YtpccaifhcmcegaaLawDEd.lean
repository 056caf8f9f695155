/-
  The walk of DepgraphEdges.
-/
import Derived.Test.YtpccaifhcmcegaaDgLh
import Derived.Test.YtpccaifhcmcegaaGb
namespace Go.Proofs.Ytpccaifhcmcegaa.depgraphEdges
set_option linter.unusedSimpArgs false
open Go.ChangeShapes Go.WideShapes Go.ChangeAt Go.RowKit
set_option linter.unusedVariables false
set_option maxRecDepth 100000

def MM (A C : List ByteArray) (f : FuncId) (_ : Array Value) (v : Value) (x : World) : Prop := ((f = 12 ∨ f = 13) → LsAt 1 16 strR x v A) ∧ ((f = 14 ∨ f = 15) → LsAt 1 16 strR x v C) ∧ ((f = 11 ∨ f = 10) → v = .bool true)
theorem MM_up {A C : List ByteArray} (f : FuncId) (args : Array Value) (v : Value) (x y : World) (h : MM A C f args v x) (u : Up x y) : MM A C f args v y := ⟨fun e => (h.1 e).up strR_up u, fun e => (h.2.1 e).up strR_up u, h.2.2⟩
theorem MM_up' {A C : List ByteArray} (f : FuncId) (args : Array Value) (v : Value) : ∀ x y, MM A C f args v x → Up x y → MM A C f args v y := fun x y h u => MM_up f args v x y h u
theorem MM_true {A C : List ByteArray} {f : FuncId} {args : Array Value} {x : World} (h : f = 11 ∨ f = 10) : MM A C f args (.bool true) x := ⟨fun e => by rcases h with h | h <;> rcases e with e | e <;> (rw [h] at e; cases e), fun e => by rcases h with h | h <;> rcases e with e | e <;> (rw [h] at e; cases e), fun _ => rfl⟩
theorem MM_a {A C : List ByteArray} {f : FuncId} {args : Array Value} {v : Value} {x : World} (h : f = 12 ∨ f = 13) (hl : LsAt 1 16 strR x v A) : MM A C f args v x := ⟨fun _ => hl, fun e => by rcases h with h | h <;> rcases e with e | e <;> (rw [h] at e; cases e), fun e => by rcases h with h | h <;> rcases e with e | e <;> (rw [h] at e; cases e)⟩
theorem MM_c {A C : List ByteArray} {f : FuncId} {args : Array Value} {v : Value} {x : World} (h : f = 14 ∨ f = 15) (hl : LsAt 1 16 strR x v C) : MM A C f args v x := ⟨fun e => by rcases h with h | h <;> rcases e with e | e <;> (rw [h] at e; cases e), fun _ => hl, fun e => by rcases h with h | h <;> rcases e with e | e <;> (rw [h] at e; cases e)⟩
set_option maxHeartbeats 16000000 in
theorem walk (w : World) {v : Value} {x : Nat × Pg} {s : ByteArray} (hv : ProgAt x.1 w v x.2) (hs : s.size ≤ maxLen) : Calls Try.prog 3 #[v, .string s] w fun e w' => e = .returned (.bool true) ∧ Below w.heap.size w w' := by
  obtain ⟨N, p⟩ := x
  dsimp only at hv
  have HSS := Lib.hid hs
  clear hs
  have HPX := Lib.hid (fun y (hy : Up w y) => hv.up hy)
  have HSMA := Lib.hid (fun y (hy : Up w y) => law_Small N p v y (hv.up hy))
  obtain ⟨v0, v1, v2, v3, v4, rfl, -⟩ := id hv
  have HU0 := Lib.hid ((Up.refl w).alloc (.cells #[v0, v1, v2, v3, v4] 27))
  have HB0 := Lib.hid (BoxC.new w 27 #[v0, v1, v2, v3, v4])
  have HLP := Lib.hid (fun y (hy : Up (w.alloc (.cells #[v0, v1, v2, v3, v4] 27)) y) => run_cs (P := Try.prog) Try.underlying27 rfl prog_info (cs := #[v0, v1, v2, v3, v4]) rfl (HB0.out.up hy).range)
  have HEX := Lib.hid (fun y => law_examples y)
  have HL0 := Lib.hid (HLP.out _ (Up.refl _))
  clear hv
  go_enter Try.func3, Try.ntmps3
  go_wp2_with (refine st_load HL0.out (by rfl) ?_)
  refine (HSMA.out _ HU0.out).mono ?_
  rintro e' W1 ⟨b, rfl, hy, hsp⟩
  have HV1 := Lib.hid hy
  have HSP := Lib.hid hsp
  clear hy hsp
  cases b
  · go_wp2_with (go_at_call 10; (with_reducible refine (HEX.out W1).mono ?_); rintro e' W2 ⟨rfl, hy⟩; have HV2 := Lib.hid hy; clear hy)
    go_ret
    exact ⟨rfl, (HU0.out.trans HV1.out).trans HV2.out⟩
  · have hsm := HSP.out rfl
    have HI1 := Lib.hid (fun y (hy : Up w y) => p_Inputs N p _ s y (HPX.out _ hy) (small_tot hsm))
    have HI2 := Lib.hid (fun y (hy : Up w y) => r20_Inputs N p _ s y (HPX.out _ hy) (small_tot hsm))
    have HC1 := Lib.hid (fun y (hy : Up w y) => p_Consumers N p _ s y (HPX.out _ hy) HSS.out (small_tot hsm) hsm.defs)
    have HC2 := Lib.hid (fun y (hy : Up w y) => r20_Consumers N p _ s y (HPX.out _ hy) (small_tot hsm) hsm.defs)
    obtain ⟨A, hA⟩ : ∃ q, inF p.defs s = q := ⟨_, rfl⟩
    obtain ⟨C, hC⟩ : ∃ q, consF p.defs s = q := ⟨_, rfl⟩
    rw [hA] at HI1 HI2
    rw [hC] at HC1 HC2
    clear hsm hA hC
    have HUW := Lib.hid (HU0.out.trans HV1.out)
    have HBP := Lib.hid (HB0.out.up HV1.out)
    obtain ⟨a0, a1, a2, a3, a4⟩ := HBP.out.five
    have asz := HBP.out.lt
    go_upto_region 3 with (fail)
    refine wp_region_md_all (MM A C) (by kernel_rfl) (by kernel_rfl) ?_
    try simp only [Act.put]
    (refine wpMd_quietG antiF_post (by kernel_rfl) ?_; intro S hm hk; clear hm hk; go_big_quiet_step (fail); refine wpQuiet_nil ?_)
    (refine wpMd_quietG antiF_post (by kernel_rfl) ?_; intro S hm hk; clear hm hk; go_big_quiet_step (fail); refine wpQuiet_nil ?_)
    refine wpMd_enterG antiF_post 12 #[.agg #[v0, v1, v2, v3, v4], .string s] (MM_up _ _) (by kernel_rfl) (fun x => by go_simp) (fun x hx hd => (HI1.out x (HUW.out.trans hx)).mono fun e w' ⟨u, h1, h2, h3⟩ => ⟨_, h1, h2, MM_a (.inl rfl) h3.1⟩) ?_
    rintro u1 - S hm hk
    have HF2 := Lib.hid (fun x hx => (hk x hx).1.1 (.inl rfl))
    clear hm hk
    simp only [Act.put, List.setIfInBounds_toArray, List.set_cons_succ, List.set_cons_zero]
    (refine wpMd_quietG antiF_post (by kernel_rfl) ?_; intro S hm hk; replace HF2 := Lib.hid (fun x hx => HF2.out x (hm _ x hx)); clear hm hk; go_big_quiet_step (fail); refine wpQuiet_nil ?_)
    (refine wpMd_quietG antiF_post (by kernel_rfl) ?_; intro S hm hk; replace HF2 := Lib.hid (fun x hx => HF2.out x (hm _ x hx)); clear hm hk; go_big_quiet_step (fail); refine wpQuiet_nil ?_)
    refine wpMd_enterG antiF_post 13 #[.agg #[v0, v1, v2, v3, v4], .string s] (MM_up _ _) (by kernel_rfl) (fun x => by go_simp) (fun x hx hd => (HI2.out x (HUW.out.trans hx)).mono fun e w' ⟨u, h1, h2, h3⟩ => ⟨_, h1, h2, MM_a (.inr rfl) h3.1⟩) ?_
    rintro u2 - S hm hk
    replace HF2 := Lib.hid (fun x hx => HF2.out x (hm _ x hx)); have HF5 := Lib.hid (fun x hx => (hk x hx).1.1 (.inr rfl))
    clear hm hk
    simp only [Act.put, List.setIfInBounds_toArray, List.set_cons_succ, List.set_cons_zero]
    refine wpMd_enterG antiF_post 11 #[u1, u2] (MM_up _ _) (by kernel_rfl) (fun x => by go_simp) (fun x hx hd => (base_Strings u1 u2 A A x (HF2.out x (hd { on := 2, ground := Ground.data } (by simp) rfl)) (HF5.out x (hd { on := 5, ground := Ground.data } (by simp) rfl)) true (decide_eq_true rfl)).mono fun e w' ⟨h1, h2⟩ => ⟨_, h1, h2, MM_true (.inl rfl)⟩) ?_
    rintro u3 ⟨y3, -, huu3⟩ S hm hk
    obtain rfl := huu3.2.2 (.inl rfl)
    clear hm hk
    simp only [Act.put, List.setIfInBounds_toArray, List.set_cons_succ, List.set_cons_zero]
    clear HF2 HF5
    (refine wpMd_quietG antiF_post (by kernel_rfl) ?_; intro S hm hk; clear hm hk; go_big_quiet_step (fail); refine wpQuiet_nil ?_)
    (refine wpMd_quietG antiF_post (by kernel_rfl) ?_; intro S hm hk; clear hm hk; go_big_quiet_step (fail); refine wpQuiet_nil ?_)
    (refine wpMd_quietG antiF_post (by kernel_rfl) ?_; intro S hm hk; clear hm hk; go_big_quiet_step (fail); refine wpQuiet_nil ?_)
    refine wpMd_enterG antiF_post 14 #[.agg #[v0, v1, v2, v3, v4], .string s] (MM_up _ _) (by kernel_rfl) (fun x => by go_simp) (fun x hx hd => (HC1.out x (HUW.out.trans hx)).mono fun e w' ⟨u, h1, h2, h3⟩ => ⟨_, h1, h2, MM_c (.inl rfl) h3.1⟩) ?_
    rintro u4 - S hm hk
    have HF10 := Lib.hid (fun x hx => (hk x hx).1.2.1 (.inl rfl))
    clear hm hk
    simp only [Act.put, List.setIfInBounds_toArray, List.set_cons_succ, List.set_cons_zero]
    (refine wpMd_quietG antiF_post (by kernel_rfl) ?_; intro S hm hk; replace HF10 := Lib.hid (fun x hx => HF10.out x (hm _ x hx)); clear hm hk; go_big_quiet_step (fail); refine wpQuiet_nil ?_)
    (refine wpMd_quietG antiF_post (by kernel_rfl) ?_; intro S hm hk; replace HF10 := Lib.hid (fun x hx => HF10.out x (hm _ x hx)); clear hm hk; go_big_quiet_step (fail); refine wpQuiet_nil ?_)
    refine wpMd_enterG antiF_post 15 #[.agg #[v0, v1, v2, v3, v4], .string s] (MM_up _ _) (by kernel_rfl) (fun x => by go_simp) (fun x hx hd => (HC2.out x (HUW.out.trans hx)).mono fun e w' ⟨u, h1, h2, h3⟩ => ⟨_, h1, h2, MM_c (.inr rfl) h3.1⟩) ?_
    rintro u5 - S hm hk
    replace HF10 := Lib.hid (fun x hx => HF10.out x (hm _ x hx)); have HF13 := Lib.hid (fun x hx => (hk x hx).1.2.1 (.inr rfl))
    clear hm hk
    simp only [Act.put, List.setIfInBounds_toArray, List.set_cons_succ, List.set_cons_zero]
    refine wpMd_enterG antiF_post 11 #[u4, u5] (MM_up _ _) (by kernel_rfl) (fun x => by go_simp) (fun x hx hd => (base_Strings u4 u5 C C x (HF10.out x (hd { on := 10, ground := Ground.data } (by simp) rfl)) (HF13.out x (hd { on := 13, ground := Ground.data } (by simp) rfl)) true (decide_eq_true rfl)).mono fun e w' ⟨h1, h2⟩ => ⟨_, h1, h2, MM_true (.inl rfl)⟩) ?_
    rintro u6 ⟨y6, -, huu6⟩ S hm hk
    obtain rfl := huu6.2.2 (.inl rfl)
    clear hm hk
    simp only [Act.put, List.setIfInBounds_toArray, List.set_cons_succ, List.set_cons_zero]
    clear HF10 HF13
    (refine wpMd_quietG antiF_post (by kernel_rfl) ?_; intro S hm hk; clear hm hk; go_big_quiet_step (fail); refine wpQuiet_nil ?_)
    (refine wpMd_quietG antiF_post (by kernel_rfl) ?_; intro S hm hk; clear hm hk; go_big_quiet_step (fail); refine wpQuiet_nil ?_)
    refine wpMd_enterG antiF_post 10 #[] (MM_up _ _) (by kernel_rfl) (fun x => by go_simp) (fun x hx hd => (HEX.out x).mono fun e w' ⟨h1, h2⟩ => ⟨_, h1, h2, MM_true (.inr rfl)⟩) ?_
    rintro u7 ⟨y7, -, huu7⟩ S hm hk
    obtain rfl := huu7.2.2 (.inr rfl)
    clear hm hk
    simp only [Act.put, List.setIfInBounds_toArray, List.set_cons_succ, List.set_cons_zero]
    (refine wpMd_quietG antiF_post (by kernel_rfl) ?_; intro S hm hk; clear hm hk; go_big_quiet_step (fail); refine wpQuiet_nil ?_)
    (refine wpMd_quietG antiF_post (by kernel_rfl) ?_; intro S hm hk; clear hm hk; go_big_quiet_step (fail); refine wpQuiet_nil ?_)
    refine wpMd_nil ?_
    intro z hz hS
    have HZ := Lib.hid hz
    clear hz hS a0 a1 a2 a3 a4 asz
    go_wp2
    go_ret
    exact ⟨rfl, HUW.out.trans HZ.out⟩
end Go.Proofs.Ytpccaifhcmcegaa.depgraphEdges
