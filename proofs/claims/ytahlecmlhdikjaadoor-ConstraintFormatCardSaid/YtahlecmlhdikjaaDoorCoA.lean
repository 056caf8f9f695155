/-
  all(..) at Tighten, of the program's side: the walk.
-/
import Derived.Test.YtahlecmlhdikjaaDoorGi
namespace Go.Proofs.YtahlecmlhdikjaaDoor
open Go.ChangeShapes Go.WideShapes Go.ChangeAt Go.RowKit
set_option linter.unusedVariables false
set_option linter.unusedSimpArgs false
set_option maxRecDepth 100000

theorem tight_info : (Tryd.prog.info? 78).map (fun i => (i.zero, i.size, i.bytes)) = some (some (.agg #[.int .i64 0, .slice none 0 0, .bool false, .int .i64 0]), 4, 48) := by kernel_rfl
theorem nostr4 {c0 c1 c2 c3 : Value} (h0 : ∀ s, c0 ≠ .string s) (h1 : ∀ s, c1 ≠ .string s) (h2 : ∀ s, c2 ≠ .string s) (h3 : ∀ s, c3 ≠ .string s) : ∀ (i : Nat) s, (#[c0, c1, c2, c3] : Array Value)[i]? ≠ some (.string s) := by
  intro i s
  rcases i with _ | _ | _ | _ | i <;> simp
  · exact h0 s
  · exact h1 s
  · exact h2 s
  · exact h3 s
theorem Part.set4 {x : World} {v : Value} {D : List Mono} {p : Nat} {t : TypeId} {c0 c1 c2 c3 u0 u1 u2 u3 : Value} (h : Part x v D) (hA : x.heap[p]? = some (.cells #[c0, c1, c2, c3] t (0, 0))) (h0 : ∀ s, c0 ≠ .string s) (h1 : ∀ s, c1 ≠ .string s) (h2 : ∀ s, c2 ≠ .string s) (h3 : ∀ s, c3 ≠ .string s) (g0 : ∀ s, u0 ≠ .string s) (g1 : ∀ s, u1 ≠ .string s) (g2 : ∀ s, u2 ≠ .string s) (g3 : ∀ s, u3 ≠ .string s) :
    Part ((((x.setCell ⟨p, 0, none⟩ u0).setCell ⟨p, 1, none⟩ u1).setCell ⟨p, 2, none⟩ u2).setCell ⟨p, 3, none⟩ u3) v D :=
  (((h.apart hA (nostr4 h0 h1 h2 h3) 0 u0).apart (cs := #[u0, c1, c2, c3]) (set_heap hA u0) (nostr4 g0 h1 h2 h3) 1 u1).apart (cs := #[u0, u1, c2, c3]) (set_heap (set_heap hA u0) u1) (nostr4 g0 g1 h2 h3) 2 u2).apart (cs := #[u0, u1, u2, c3]) (set_heap (set_heap (set_heap hA u0) u1) u2) (nostr4 g0 g1 g2 h3) 3 u3

def TightN (w : World) (r : Con × Int × Int) (e : Ending) (w' : World) : Prop := (∃ v, e = .returned (.tuple #[.agg #[.int .i64 r.1.1, v, .bool r.1.2.2, .int .i64 r.2.1], .int .i64 r.2.2]) ∧ Part w' v r.1.2.1 ∧ FreshV w v) ∧ Up w w'

set_option maxHeartbeats 2000000 in
theorem con_Normalize1 (K : Int) (v : Value) (l : List Mono) (b : Bool) (w : World) (hv : Part w v l) (hK : In64 K) (hlen : l.length ≤ 1000) :
    Calls Tryd.prog 49 #[.agg #[.int .i64 K, v, .bool b]] w (TightN w (tightF (K, l, b))) := by
  obtain ⟨r, hr⟩ : ∃ r, tightF (K, l, b) = r := ⟨_, rfl⟩
  rw [hr]
  have HT : Hid (∀ w, Part w v l → Calls Tryd.prog 15 #[.agg #[.int .i64 K, v, .bool b]] w (TightR w r)) := Lib.hid fun w h => hr ▸ con_Tighten K v l b w h hK hlen
  have HV := Lib.hid hv
  obtain ⟨a, cap, rfl⟩ := hv.1.slice
  obtain ⟨n, hn⟩ : ∃ n, l.length = n := ⟨_, rfl⟩
  rw [hn] at HV HT ⊢
  obtain ⟨⟨rK, rl, rb⟩, rk, re⟩ := r
  clear hv hr hn hlen hK
  go_enter Tryd.func49, Tryd.ntmps49
  go_wp2_with fail
  refine (HT.out _ (HV.out.up (((Up.refl w).alloc _).alloc _))).mono ?_
  rintro e x1 ⟨⟨v1, rfl, hp1, hf1⟩, hx1⟩
  have hs := hx1.size
  rw [size_alloc, size_alloc] at hs
  have HRB : Hid (x1.heap[w.heap.size + 1]? = some (.cells #[.int .i64 0, .slice none 0 0, .bool false, .int .i64 0] 78 (0, 0))) := Lib.hid (by
    rw [hx1.heap _ (by rw [size_alloc, size_alloc]; omega)]
    have := heap_alloc_new (w.alloc (.cells #[.int .i64 K, .slice a n cap, .bool b] 26)) (.cells #[.int .i64 0, .slice none 0 0, .bool false, .int .i64 0] 78)
    rw [size_alloc] at this; exact this)
  have d0 : x1.cell? ⟨w.heap.size + 1, 0, none⟩ = some (.int .i64 0) := cell_of_row _ _ _ _ _ _ HRB.out
  have d1 : x1.cell? ⟨w.heap.size + 1, 1, none⟩ = some (.slice none 0 0) := cell_of_row _ _ _ _ _ _ HRB.out
  have d2 : x1.cell? ⟨w.heap.size + 1, 2, none⟩ = some (.bool false) := cell_of_row _ _ _ _ _ _ HRB.out
  have d3 : x1.cell? ⟨w.heap.size + 1, 3, none⟩ = some (.int .i64 0) := cell_of_row _ _ _ _ _ _ HRB.out
  have df : ∀ o, x1.frozen? ⟨w.heap.size + 1, o, none⟩ = false := fun o => frozen_of_row _ _ _ _ _ HRB.out
  have q1 : w.heap.size + 1 < x1.heap.size := by omega
  have HU1 := Lib.hid ((((Up.refl w).alloc (.cells #[.int .i64 K, .slice a n cap, .bool b] 26)).alloc (.cells #[.int .i64 0, .slice none 0 0, .bool false, .int .i64 0] 78)).trans hx1)
  have HF := Lib.hid (FreshV.mono (w := w) hf1 (by rw [size_alloc, size_alloc]; omega))
  obtain ⟨a1, c1, rfl⟩ := hp1.1.slice
  obtain ⟨n1, hn1⟩ : ∃ n, rl.length = n := ⟨_, rfl⟩
  dsimp only at hp1 HF hn1 ⊢
  rw [hn1] at hp1 HF ⊢
  have HFP := Lib.hid ((hp1.set4 (u0 := .int .i64 rK) (u1 := .slice a1 n1 c1) (u2 := .bool rb) (u3 := .int .i64 rk) HRB.out (by simp) (by simp) (by simp) (by simp) (by simp) (by simp) (by simp) (by simp)).up ((Up.refl _).alloc (.cells #[.int .i64 rK, .slice a1 n1 c1, .bool rb] 26)))
  have hset : ∀ (x : World) (v : Value) (o : Nat), Up w x → Up w (x.setCell ⟨w.heap.size + 1, o, none⟩ v) := fun x v o u => u.setCell (by show w.heap.size ≤ w.heap.size + 1; omega) v
  have HSET := Lib.hid hset
  clear hset hx1 hf1 hp1 hn1 hs
  go_wp2
  refine bodyPost_ret (v := .tuple #[.agg #[.int .i64 rK, .slice a1 n1 c1, .bool rb, .int .i64 rk], .int .i64 re]) (by first | (simp [results, Tryd.results49, go_sem, d0, d1, d2, d3]; done) | (simp [results, Tryd.results49, go_sem, d0, d1, d2, d3, q1]; done) | go_simp) rfl ?_
  exact ⟨⟨_, rfl, HFP.out, HF.out⟩, by repeat (first | exact HU1.out | refine HSET.out _ _ _ ?_ | refine Up.alloc ?_ _)⟩

def AllR (w : World) (r : List TCon × Int) (e : Ending) (w' : World) : Prop := (∃ v, e = .returned (.tuple #[v, .int .i64 r.2]) ∧ TsAt w' v r.1) ∧ Up w w'
theorem ts_nil (w : World) : TsAt w (.slice none 0 0) [] := ⟨fun _ => undef, SlAt.nil w 4 _, fun i hi => absurd hi (by simp)⟩
theorem tc_one {x : World} {K k : Int} {v : Value} {b : Bool} (t : TypeId) (l : List Mono) : SlAt (x.alloc (.cells #[.int .i64 K, v, .bool b, .int .i64 k] t)) (.slice (some ⟨x.heap.size, 0, none⟩) 1 1) 1 4 (tcF [((K, l, b), k)] (fun _ => v)) :=
  SlAt.new x t _ 1 4 _ (by decide) fun i j hi hj => by
    obtain rfl : i = 0 := by omega
    rcases (by omega : j = 0 ∨ j = 1 ∨ j = 2 ∨ j = 3) with rfl | rfl | rfl | rfl <;> rfl

set_option maxHeartbeats 4000000 in
theorem con_all (v : Value) (cs : List Con) (w : World) (hv : ConsAt w v cs) (hn : cs.length ≤ 300) (hlen : ∀ c ∈ cs, c.2.1.length ≤ 1000) :
    Calls Tryd.prog 48 #[v, .func (.func 49) #[] #[]] w (AllR w (allF cs [])) := by
  obtain ⟨i0, hi0, hz0, hz1, hz2⟩ := info_parts tight_info
  obtain ⟨r, hr⟩ : ∃ r, allF cs [] = r := ⟨_, rfl⟩
  rw [hr]
  have HV := Lib.hid hv
  obtain ⟨⟨a, cap, rfl⟩, hmax⟩ := hv.slice
  obtain ⟨n, hnn⟩ : ∃ n, cs.length = n := ⟨_, rfl⟩
  rw [hnn] at hmax hn ⊢
  have hnI : (n : Int) ≤ 300 := by omega
  have HN := Lib.hid hnn
  have HRR := Lib.hid hr
  have HL := Lib.hid hlen
  obtain ⟨B, hB⟩ : ∃ B, w.heap.size = B := ⟨_, rfl⟩
  have HB := Lib.hid hB
  clear hnn hr hv hlen hmax hB
  go_enter Tryd.func48, Tryd.ntmps48
  go_wp2
  go_loopw [6, 13] (fun ov iv wr => ∃ (i : Nat) (ts : List TCon) (vs : Nat → Value), i ≤ n ∧ iv = .int .i64 i ∧ ts.length = i ∧ wr.ownsRow B 78 4 ov i (flat (tcF ts vs) i 4) ∧ (∀ j, j < i → PartN ov.ownBlock wr (vs j) (ts.getD j t0).1.2.1 ∧ In64 (ts.getD j t0).1.1) ∧ allF (cs.drop i) ts = r ∧ Up w wr) (fun _ iv _ => n - (intOf iv).toNat)
  case atStart => exact ⟨0, [], fun _ => undef, by omega, rfl, rfl, World.ownsRow_nil _ _ _ _, fun j hj => absurd hj (by omega), by rw [List.drop_zero]; exact HRR.out, Up.refl w⟩
  case round =>
    rename World => wr
    obtain ⟨i, ts, vs, hi, rfl, hti, hown, hparts, hf, hU⟩ := hrel
    obtain ⟨va, vc, rfl⟩ := own_slice hown
    have HOWN := Lib.hid hown
    have HPS := Lib.hid hparts
    have HTI := Lib.hid hti
    have HU := Lib.hid hU
    clear hown hparts hti hU
    by_cases hlt : i < n
    · have hltI : (i : Int) < n := by omega
      obtain ⟨bl, off, lv, K, l, b, ha, hbl, hg, k0, k1, k2, hp, hKr⟩ := HV.out.elem HU.out i (by rw [HN.out]; exact hlt) HN.out (by rw [HN.out])
      subst ha
      have hd : cs.drop i = (K, l, b) :: cs.drop (i + 1) := by
        have := List.drop_eq_getElem_cons (l := cs) (i := i) (by rw [HN.out]; exact hlt)
        rw [this]
        congr 1
        rw [List.getD_eq_getElem?_getD, List.getElem?_eq_getElem (by rw [HN.out]; exact hlt)] at hg
        exact hg
      rw [hd] at hf
      have hm : (K, l, b) ∈ cs := List.mem_of_mem_drop (i := i) (by rw [hd]; exact List.mem_cons_self)
      have hl1 := HL.out _ hm
      obtain ⟨q, hq⟩ : ∃ q, tightF (K, l, b) = q := ⟨_, rfl⟩
      have HP := Lib.hid hp
      have HQK : Hid (In64 q.1.1) := Lib.hid (hq ▸ tight_in64 (c := (K, l, b)) hKr hp.2.1.mem)
      obtain ⟨al, capl, rfl⟩ := hp.1.slice
      obtain ⟨nl, hnl⟩ : ∃ n, l.length = n := ⟨_, rfl⟩
      rw [hnl] at HP k1
      have HH : Hid (∀ w, Part w (.slice al nl capl) l → Calls Tryd.prog 49 #[.agg #[.int .i64 K, .slice al nl capl, .bool b]] w (TightN w q)) := Lib.hid fun w h => by
        rw [← hq]; exact con_Normalize1 K _ l b w h hKr hl1
      have HF : Hid ((if q.2.2 ≠ 0 then ([], q.2.2) else allF (cs.drop (i + 1)) (ts ++ [(q.1, q.2.1)])) = r) := Lib.hid (by rw [← hf, allF_cons, hq])
      obtain ⟨⟨qK, ql, qb⟩, qk, qe⟩ := q
      dsimp only at HF HQK
      have hb1 : bl < wr.heap.size := Nat.lt_of_lt_of_le hbl HU.out.size
      clear hf hd hm hg hp hq hnl hl1 hKr hbl
      go_wp2_with fail
      refine (HH.out _ (HP.out.up ((Up.refl wr).alloc _))).mono ?_
      rintro e x ⟨⟨v1, rfl, hp1, hf1⟩, hx⟩
      have hxx := (((Up.refl wr).alloc _).trans hx)
      have HU2 := Lib.hid (HU.out.trans hxx)
      have HOX := Lib.hid (own_up' HOWN.out hxx)
      have HPX := Lib.hid (fun j hj => And.intro ((HPS.out j hj).1.up hxx) (HPS.out j hj).2)
      have HP1 : Hid (PartN (Value.slice va i vc).ownBlock x v1 ql) := Lib.hid (PartN.fresh hp1 hf1 fun g hg => by
        have := own_blk HOWN.out g hg
        rw [size_alloc]; omega)
      obtain ⟨a1, c1, rfl⟩ := hp1.1.slice
      obtain ⟨n1, hn1⟩ : ∃ n, ql.length = n := ⟨_, rfl⟩
      dsimp only at HP1 hn1 ⊢
      rw [hn1] at HP1 ⊢
      clear hx HH HPS HOWN hp1 hf1 hxx hn1
      by_cases h2 : qe = 0
      · subst h2
        have HG : Hid (allF (cs.drop (i + 1)) (ts ++ [((qK, ql, qb), qk)]) = r) := Lib.hid (by rw [← HF.out]; simp)
        have HONE : Hid (∀ i j, i < 1 → j < 4 → (tcF [((qK, ql, qb), qk)] (fun _ => Value.slice a1 n1 c1) i j).oneCell' = true) := Lib.hid (fun i j _ hj => by
          rcases (by omega : j = 0 ∨ j = 1 ∨ j = 2 ∨ j = 3) with rfl | rfl | rfl | rfl <;> rfl)
        go_wp2_with (at_builtin; refine wpList_append_sl _ rfl _ _ 74 rfl B 78 i0 _ 4 48 Tryd.underlying74 hi0 hz0 hz1 hz2 rfl (by decide) (.slice va i vc) i _ rfl (own_up' HOX.out (((Up.refl x).alloc _).alloc _)) (.slice (some ⟨x.heap.size + 1, 0, none⟩) 1 1) 1 _ rfl ((size_alloc x (.cells #[.int .i64 qK, .slice a1 n1 c1, .bool qb, .int .i64 qk] 78)) ▸ tc_one 78 ql) HONE.out (by unfold maxLen; omega) (by omega) (by have := HU2.out.size; have := HB.out; simp; omega) ?_; intro v2 w1 hown1 hg1 hat1 hnil1; obtain ⟨vb, vd, rfl⟩ := own_slice hown1; have HO1 := Lib.hid hown1; have HG1 := Lib.hid hg1; have HAT := Lib.hid hat1; clear hown1 hg1 hat1 hnil1)
        have HPN := Lib.hid (tparts_snoc (v1 := .slice vb (i + 1) vd) HTI.out (fun j hj => ⟨((HPX.out j hj).1.up (((Up.refl x).alloc (.cells #[.int .i64 qK, .slice a1 n1 c1, .bool qb, .int .i64 qk] 78)).alloc (.cells #[.int .i64 qK, .slice a1 n1 c1, .bool qb, .int .i64 qk] 78))), (HPX.out j hj).2⟩) (t := ((qK, ql, qb), qk)) (HP1.out.up (((Up.refl x).alloc _).alloc _)) HQK.out HG1.out HAT.out)
        have HUN := Lib.hid (((HU2.out.alloc (.cells #[.int .i64 qK, .slice a1 n1 c1, .bool qb, .int .i64 qk] 78)).alloc (.cells #[.int .i64 qK, .slice a1 n1 c1, .bool qb, .int .i64 qk] 78)).grown HG1.out fun g hg => by rw [HB.out]; exact own_base HOX.out g hg)
        have HON := Lib.hid ((tc_snoc ts ((qK, ql, qb), qk) vs (.slice a1 n1 c1) i HTI.out) ▸ HO1.out)
        clear HO1 HG1 HAT
        try go_roundw
        case rel => exact ⟨i + 1, ts ++ [((qK, ql, qb), qk)], _, by omega, by go_num, by rw [List.length_append, HTI.out]; rfl, HON.out, HPN.out, HG.out, HUN.out⟩
        case measure => simp [intOf]; omega
      · have h2' : (qe == 0) = false := by simpa using h2
        have HG : Hid (r = ([], qe)) := Lib.hid (by rw [← HF.out]; simp [h2])
        go_wp2
        go_ret2
        exact ⟨⟨.slice none 0 0, by rw [HG.out]; first | rfl | simp, by rw [HG.out]; exact ts_nil _⟩, HU2.out.alloc _⟩
    · obtain rfl : i = n := by omega
      have HG : Hid (r = (ts, 0)) := Lib.hid (by rw [← hf, List.drop_eq_nil_of_le (by rw [HN.out]; omega)]; rfl)
      clear hf
      go_wp2
      go_ret2
      refine ⟨⟨.slice va i vc, by rw [HG.out]; first | rfl | simp, ?_⟩, HU.out⟩
      rw [HG.out]
      have hti := HTI.out
      refine ⟨vs, ?_, fun j hj => ?_⟩
      · rw [hti]; exact SlAt.of_own HOWN.out (by omega) (fun i j hi hj => flat_get _ _ _ _ _ hi hj)
      · obtain ⟨h1, h2⟩ := HPS.out j (by rw [← hti]; exact hj)
        exact ⟨h1.1, h2⟩
end Go.Proofs.YtahlecmlhdikjaaDoor
