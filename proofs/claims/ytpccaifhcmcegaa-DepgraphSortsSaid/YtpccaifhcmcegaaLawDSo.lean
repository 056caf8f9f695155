/-
  The walk of DepgraphSorts.
-/
import Derived.Test.YtpccaifhcmcegaaDgXm
import Derived.Test.YtpccaifhcmcegaaDgE5
namespace Go.Proofs.Ytpccaifhcmcegaa.depgraphSorts
set_option linter.unusedSimpArgs false
open Go.ChangeShapes Go.WideShapes Go.ChangeAt Go.RowKit
set_option linter.unusedVariables false
set_option maxRecDepth 100000

theorem progAt_one {N : Nat} {w : World} {a b c d e : Value} {p : Pg} (h : ProgAt N w (.agg #[a, b, c, d, e]) p) : (#[a, b, c, d, e] : Array Value).all (·.oneCell') = true := by
  obtain ⟨sa, sc, ca, cc, pa, pc, da, dc, oa, oc, e, -⟩ := h.open
  simp only [Value.agg.injEq, Array.mk.injEq, List.cons.injEq, and_true] at e
  obtain ⟨rfl, rfl, rfl, rfl, rfl⟩ := e
  simp [Value.oneCell']
theorem mem_sum : ∀ (l : List Nat) (n : Nat), n ∈ l → n ≤ l.sum
  | [], n, h => by simp at h
  | x :: r, n, h => by
    rw [List.sum_cons]
    rcases List.mem_cons.1 h with rfl | h
    · omega
    · have := mem_sum r n h; omega
theorem small_tot {p : Pg} (h : SmallP p) : ∀ d ∈ p.defs, tot d.body ≤ 1500 := fun d hd => by
  have h1 := h.sum
  have h2 : defW d ≤ (p.defs.map defW).sum := mem_sum _ _ (List.mem_map.2 ⟨d, hd, rfl⟩)
  have h3 : tot d.body ≤ defW d := Nat.le_add_left _ _
  omega
set_option maxHeartbeats 16000000 in
theorem walk (w : World) {v : Value} {x : Nat × Pg} (hv : ProgAt x.1 w v x.2) : Calls Try.prog 7 #[v] w fun e w' => e = .returned (.bool true) ∧ Below w.heap.size w w' := by
  obtain ⟨N, p⟩ := x
  dsimp only at hv
  have HPX := Lib.hid (fun y (hy : Up w y) => hv.up hy)
  have HSMA := Lib.hid (fun y (hy : Up w y) => law_Small N p v y (hv.up hy))
  obtain ⟨v0, v1, v2, v3, v4, rfl, -⟩ := id hv
  have HU0 := Lib.hid ((Up.refl w).alloc (.cells #[v0, v1, v2, v3, v4] 27))
  have HB0 := Lib.hid (BoxC.new w 27 #[v0, v1, v2, v3, v4])
  have HLP := Lib.hid (fun y (hy : Up (w.alloc (.cells #[v0, v1, v2, v3, v4] 27)) y) => run_cs (P := Try.prog) Try.underlying27 rfl prog_info (cs := #[v0, v1, v2, v3, v4]) rfl (HB0.out.up hy).range)
  have HEX := Lib.hid (fun y => law_examples y)
  have HL0 := Lib.hid (HLP.out _ (Up.refl _))
  clear hv
  go_enter Try.func7, Try.ntmps7
  go_wp2_with (refine st_load HL0.out (by rfl) ?_)
  refine (HSMA.out _ HU0.out).mono ?_
  rintro e' W1 ⟨b, rfl, hy, hsp⟩
  have HV1 := Lib.hid hy
  have HSP := Lib.hid hsp
  clear hy hsp
  cases b
  · go_wp2_with (go_at_call 10; (with_reducible refine (HEX.out W1).mono ?_); rintro e' W2 ⟨rfl, hy⟩; have HV2 := Lib.hid hy; clear hy)
    go_ret
    exact ⟨rfl, (HU0.out.trans HV1.out).trans HV2.out⟩
  · have hsm := HSP.out rfl
    have HT1 := Lib.hid (p_TopoSort N p _ W1 (HPX.out _ (HU0.out.trans HV1.out)) (small_tot hsm) hsm.defs)
    have HT2 := Lib.hid (fun y (hy : Up w y) => r20_TopoSort N p _ y (HPX.out _ hy) (small_tot hsm) hsm.defs)
    have HL1 := Lib.hid (HLP.out _ HV1.out)
    obtain ⟨Q, hQ⟩ : ∃ q, (topoF p).1 = q := ⟨_, rfl⟩
    obtain ⟨E, hE⟩ : ∃ q, (topoF p).2 = q := ⟨_, rfl⟩
    rw [hQ, hE] at HT1 HT2
    clear hsm hQ hE
    have hee : (E == E) = true := by simp
    go_wp2_with (first
      | (refine st_load HL1.out (by rfl) ?_)
      | (go_at_call 23; (with_reducible refine HT1.out.mono ?_); rintro e' W2 ⟨u, rfl, hy, hp⟩; have HP2 := Lib.hid hp; obtain ⟨q0, q1, q2, q3, q4, rfl, -⟩ := id hp; have HV2 := Lib.hid (HV1.out.trans hy); have HF2 := Lib.hid (run_fill (P := Try.prog) prog_info W2 (Z := #[.slice none 0 0, .slice none 0 0, .slice none 0 0, .slice none 0 0, .slice none 0 0]) (cs := #[q0, q1, q2, q3, q4]) rfl rfl (progAt_one HP2.out)); have HB2 := Lib.hid (BoxC.new W2 27 #[q0, q1, q2, q3, q4]); have HV3 := Lib.hid (HV2.out.alloc (.cells #[q0, q1, q2, q3, q4] 27)); have HL3 := Lib.hid (HLP.out _ HV3.out); have HT3 := Lib.hid (HT2.out _ (HU0.out.trans HV3.out)); clear hp hy)
      | (refine st_store HF2.out (by rfl) (by rfl) ?_)
      | (refine st_load HL3.out (by rfl) ?_)
      | (go_at_call 24; (with_reducible refine HT3.out.mono ?_); rintro e' W4 ⟨u, rfl, hy, hp⟩; have HP4 := Lib.hid hp; obtain ⟨r0, r1, r2, r3, r4, rfl, -⟩ := id hp; have HV4 := Lib.hid (HV3.out.trans hy); have HF4 := Lib.hid (run_fill (P := Try.prog) prog_info W4 (Z := #[.slice none 0 0, .slice none 0 0, .slice none 0 0, .slice none 0 0, .slice none 0 0]) (cs := #[r0, r1, r2, r3, r4]) rfl rfl (progAt_one HP4.out)); have HA4 := Lib.hid ((Up.refl W4).alloc (.cells #[r0, r1, r2, r3, r4] 27)); have HB4 := Lib.hid (BoxC.new W4 27 #[r0, r1, r2, r3, r4]); have HLa := Lib.hid (run_cs (P := Try.prog) Try.underlying27 rfl prog_info (cs := #[q0, q1, q2, q3, q4]) rfl (((HB2.out.up hy).up HA4.out).range)); have HLb := Lib.hid (run_cs (P := Try.prog) Try.underlying27 rfl prog_info (cs := #[r0, r1, r2, r3, r4]) rfl HB4.out.range); have HEQ := Lib.hid (base_Prog N (W4.alloc (.cells #[r0, r1, r2, r3, r4] 27)) _ _ Q ((HP2.out.up ((Up.refl W2).alloc (.cells #[q0, q1, q2, q3, q4] 27))).up (hy.trans HA4.out)) (HP4.out.up HA4.out)); clear hp hy)
      | (refine st_store HF4.out (by rfl) (by rfl) ?_)
      | (refine st_load HLa.out (by rfl) ?_)
      | (refine st_load HLb.out (by rfl) ?_)
      | (go_at_call 21; (with_reducible refine HEQ.out.mono ?_); rintro e' W5 ⟨rfl, hy⟩; have HV5 := Lib.hid ((HV4.out.trans HA4.out).trans hy); clear hy)
      | (go_at_call 10; (with_reducible refine (HEX.out W5).mono ?_); rintro e' W6 ⟨rfl, hy⟩; have HV6 := Lib.hid (HV5.out.trans hy); clear hy))
    go_ret
    exact ⟨rfl, HU0.out.trans HV6.out⟩
end Go.Proofs.Ytpccaifhcmcegaa.depgraphSorts
