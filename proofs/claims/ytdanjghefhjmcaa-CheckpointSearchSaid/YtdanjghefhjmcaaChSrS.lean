/-
  The exhaustive search of the reference: Search.
-/
import Derived.Test.YtdanjghefhjmcaaChSrF
import Derived.IntWalk
namespace Go.Proofs.Ytdanjghefhjmcaa
open Go.ChangeShapes Go.WideShapes Go.ChangeAt Go.RowKit
set_option linter.unusedVariables false

theorem start_own (x : World) (n k : Nat) (hn : n ≤ 5) (hk : k ≤ 2) (sv : Value) (hs : SlAt x sv k 1 (rdS (st0 n))) :
    LsOwn (x.alloc (.cells #[.int .i64 0, .int .i64 n, sv] 46)) x.heap.size k (.slice (some ⟨x.heap.size, 0, none⟩) 1 1) [(startL n k, sv)] := by
  refine ⟨⟨rfl, .inr ⟨x.heap.size, 1, _, rfl, Nat.le_refl _, heap_alloc_new x _, Nat.le_refl 1, by decide, rfl, rfl⟩⟩, fun p hp => ?_⟩
  rw [List.mem_singleton.1 hp]
  have h1 : SlAt x sv k 1 (rdL (startL n k)) := by
    refine hs.congr fun i j hi hj => ?_
    rw [← toP_start n k]
    exact (toP_rd _ (fun j => ((start_ok (n := n) (k := k) hn).ok.sl j).1) i j)
  refine ⟨h1.up ((Up.refl x).alloc _), fun h0 y m c hy => ?_⟩
  have := h1.blk h0 hy
  intro e
  have h9 : y.block = x.heap.size := Option.some.inj e
  omega
def CutS (wr : World) (k : Nat) (row : Option Nat) (r : Bool × LSt) (s9 s10 : Value) (wx : World) : Prop :=
  ∃ (Z : Nat) (ta : Option Addr) (tc : Nat), s9 = .pointer (some ⟨Z, 0, none⟩) ∧ s10 = .bool r.1 ∧ wx.heap[Z]? = some (.cells #[.int .i64 r.2.1, .int .i64 r.2.2.1, .slice ta k tc] 46 (0, 0)) ∧ SvOk wx k row (.slice ta k tc) r.2 ∧ Up wr wx
theorem r28_DoE {n k : Nat} (hn : n ≤ 5) (hk : k ≤ 2) (s : LSt) (hs : Ok3 n k s) (op at' sl : Int) (a0 : -9223372036854775808 ≤ at') (a1 : at' ≤ 9223372036854775807) (row : Option Nat) (sv : Value) (w : World) (hv : SvOk w k row sv s) (hrow : ∀ g, row = some g → g < w.heap.size) (r : Bool × LSt) (hr : doL n k s op at' sl = r) :
    Calls Try.prog 28 #[.agg #[.int .i64 s.1, .int .i64 s.2.1, sv], .int .i64 n, .agg #[.int .i64 op, .int .i64 at', .int .i64 sl]] w (DoR w k row sv r) := hr ▸ r28_DoL n k hn hk s hs op at' sl a0 a1 row sv w hv hrow
/-- What the scan has met. -/
structure Scan (n k : Nat) (l nx : List LSt) : Prop where
  left : ∀ s ∈ l, s.2.1 ≠ 0
  nodup : nx.Nodup
  ok : ∀ s ∈ nx, Ok3 n k s
  all : ∀ s ∈ l, ∀ t ∈ advS n k s, t ∈ nx
  only : ∀ t ∈ nx, ∃ s ∈ l, t ∈ advS n k s
theorem Scan.nil (n k : Nat) : Scan n k [] [] := ⟨fun s hs => (by cases hs), List.nodup_nil, fun s hs => (by cases hs), fun s hs => (by cases hs), fun s hs => (by cases hs)⟩
theorem Scan.step {n k : Nat} (hn : n ≤ 5) {l nx : List LSt} (h : Scan n k l nx) {s : LSt} (hs : Ok3 n k s) (h0 : s.2.1 ≠ 0) : Scan n k (l ++ [s]) ((advS n k s).foldl addL nx) := by
  have ha : ∀ t ∈ advS n k s, Ok3 n k t := opt_ok (do_ok3 hn hs 1 (s.1 + 1) 0 (fun e => by omega))
  refine ⟨fun u hu => ?_, fold_nodup _ _ h.nodup, fold_ok _ _ ha h.ok, fun u hu t ht => ?_, fun t ht => ?_⟩
  · rcases List.mem_append.1 hu with hu | hu
    · exact h.left u hu
    · rw [List.mem_singleton.1 hu]; exact h0
  · rcases List.mem_append.1 hu with hu | hu
    · exact (fold_pre _ _).subset (h.all u hu t ht)
    · rw [List.mem_singleton.1 hu] at ht; exact fold_mem _ _ t ht
  · rcases mem_fold _ _ t ht with h1 | h1
    · obtain ⟨u, hu, hut⟩ := h.only t h1
      exact ⟨u, by simp [hu], hut⟩
    · exact ⟨s, by simp, h1⟩
theorem lvl_next {n k c : Nat} (hn : n ≤ 5) (hk : k ≤ 2) {l nx : List LSt} (h : Lvl n k c l) (hs : Scan n k l nx) : ∃ l', freeL n k 5000 nx 0 = some l' ∧ Lvl n k (c + 1) l' ∧ l'.Nodup := by
  obtain ⟨l', k1, k2⟩ := free_ok hn hk 5000 0 nx (by omega) (by omega) hs.nodup hs.ok (fun j s hj => by omega)
  refine ⟨l', k1, ⟨k2.ok, ?_, ?_⟩, k2.nodup⟩
  · refine k2.only _ (fun s hs' => ?_) (fun s t hs ht => hs.free ht)
    obtain ⟨u, hu, hus⟩ := hs.only s hs'
    exact (h.path u hu).adv hus
  · have key : ∀ c' s, Path n k c' s → c' = c + 1 → s ∈ l' := fun c' s hp => by
      induction hp with
      | refl => intro e; omega
      | free _ ht ih => intro e; exact k2.closed _ (ih e) _ ht
      | adv hp ht _ =>
        intro e
        have ec := Nat.succ.inj e
        subst ec
        exact k2.sub _ (hs.all _ (h.all _ hp) _ ht)
    exact fun s hp => key _ s hp rfl
theorem lvl_zero {n k : Nat} (hn : n ≤ 5) (hk : k ≤ 2) : ∃ l, freeL n k 5000 [startL n k] 0 = some l ∧ Lvl n k 0 l ∧ l.Nodup := by
  obtain ⟨l, h1, h2⟩ := free_start hn hk
  obtain ⟨l2, g1, g2⟩ := free_ok hn hk 5000 0 [startL n k] (by omega) (by omega) (by simp) (fun s hs => by rw [List.mem_singleton.1 hs]; exact start_ok hn) (fun j s hj => by omega)
  rw [h1] at g1
  cases g1
  exact ⟨l, h1, h2, g2.nodup⟩
theorem lvl_lt {n k c : Nat} (hn : n ≤ 5) (hk : k ≤ 2) {l : List LSt} (h : Lvl n k c l) (hl : ∀ s ∈ l, s.2.1 ≠ 0) (hc : c ≤ costF n k) : c + 1 ≤ costF n k := by
  have hne : c ≠ costF n k := fun e => by
    obtain ⟨t, ht, ht0⟩ := best_path hn hk
    rw [← e] at ht
    exact hl t (h.all t ht) ht0
  omega
theorem lvl_end {n k c : Nat} (hn : n ≤ 5) (hk : k ≤ 2) {l : List LSt} (h : Lvl n k c l) {s : LSt} (hs : s ∈ l) (h0 : s.2.1 = 0) (hc : c ≤ costF n k) : c = costF n k := by
  have := path_cost hn hk (h.path s hs) h0
  omega

set_option maxHeartbeats 32000000 in
set_option maxRecDepth 100000 in
theorem r28_Search (n k : Nat) (hn : n ≤ 5) (hk : k ≤ 2) (w : World) :
    Calls Try.prog 15 #[.int .i64 n, .int .i64 k] w fun e w' => e = .returned (.int .i64 (costF n k)) ∧ Up w w' := by
  obtain ⟨cost, hcost⟩ : ∃ c, costF n k = c := ⟨_, rfl⟩
  rw [hcost]
  have HCO := Lib.hid hcost
  have hc20 : cost ≤ 20 := hcost ▸ cost_small hn hk
  have hnI : (n : Int) ≤ 5 := by omega
  have hkI : (k : Int) ≤ 2 := by omega
  clear hcost
  obtain ⟨l0, hf0, hlv0, hnd0⟩ := lvl_zero hn hk
  have HF0 := Lib.hid hf0
  have HLV0 := Lib.hid hlv0
  have HND0 := Lib.hid hnd0
  clear hf0 hlv0 hnd0
  go_enter Try.func15, Try.ntmps15
  go_wp2_with fail
  refine (r28_Start n k (by omega) w).mono ?_
  rintro e x1 ⟨sv, rfl, hsv, hx1⟩
  have hlo := start_own x1 n k hn hk sv hsv
  have HLO := Lib.hid hlo
  obtain ⟨sva, svc, rfl⟩ : ∃ a c, sv = .slice a k c := by
    obtain ⟨⟨a, c, he, _⟩, _⟩ := hsv
    exact ⟨a, c, he⟩
  have HX1 := Lib.hid hx1
  clear hsv hlo hx1
  go_wp2_with fail
  refine (r28_free n k hn hk x1.heap.size _ _ _ HLO.out (fun s hs => by rw [List.mem_singleton.1 hs]; exact start_ok hn) (by rw [size_alloc]; omega) l0 HF0.out (by simp)).mono ?_
  rintro e x2 ⟨v2, pl2, rfl, hl2, hp2, hb2⟩
  have HL2 := Lib.hid hl2
  have HP2 := Lib.hid hp2
  have HU2 : Hid (Up w x2) := Lib.hid (HX1.out.trans (Below.trans ((Up.refl x1).alloc _) hb2))
  clear hl2 hp2 hb2 HLO
  have hbs : w.heap.size ≤ x1.heap.size := HX1.out.size
  clear HX1
  go_wp2
  go_loopw [5, 6] (fun lv cv wr => ∃ (c base : Nat) (pl : List (LSt × Value)), cv = .int .i64 c ∧ c ≤ cost ∧ LsOwn wr base k lv pl ∧ Lvl n k c (pl.map (·.1)) ∧ (pl.map (·.1)).Nodup ∧ Up w wr) (fun _ cv _ => 100 - (intOf cv).toNat)
  case atStart => exact ⟨0, x1.heap.size, pl2, rfl, by omega, HL2.out, by rw [HP2.out]; exact HLV0.out, by rw [HP2.out]; exact HND0.out, HU2.out⟩
  case round =>
    rename World => wo
    obtain ⟨c, base, pl, rfl, hcc, hL, hLv, hNd, hU⟩ := hrel
    have hm4 := nodup_len hk hNd (fun s hs => (hLv.ok s hs).ok)
    rw [List.length_map] at hm4
    obtain ⟨va, vc, rfl⟩ := own_slice hL.own
    obtain ⟨m, hm⟩ : ∃ m, pl.length = m := ⟨_, rfl⟩
    have HM := Lib.hid hm
    have HL := Lib.hid hL
    have HLV := Lib.hid hLv
    have HU := Lib.hid hU
    rw [hm] at hm4 ⊢
    have hmI : (m : Int) ≤ 4096 := by omega
    have hc100 : (c : Int) < 100 := by omega
    have hc0 : (0 : Int) ≤ (c : Int) := by omega
    obtain ⟨B2, hB2⟩ : ∃ B, wo.heap.size = B := ⟨_, rfl⟩
    have HB2 := Lib.hid hB2
    clear hL hLv hNd hU hm hB2
    go_wp2
    go_loopw [7, 8] (fun nv iv wr => ∃ (i : Nat) (pn : List (LSt × Value)), i ≤ m ∧ iv = .int .i64 i ∧ LsOwn wr B2 k nv pn ∧ Scan n k ((pl.map (·.1)).take i) (pn.map (·.1)) ∧ Up wo wr) (fun _ iv _ => m - (intOf iv).toNat)
    case atStart => exact ⟨0, [], by omega, rfl, ⟨World.ownsRow_nil _ _ _ _, fun p hp => by cases hp⟩, Scan.nil n k, Up.refl _⟩
    case round =>
      rename World => wr
      obtain ⟨i, pn, him, rfl, hN, hS, hUr⟩ := hrel
      have hpn := nodup_len hk hS.nodup (fun s hs => (hS.ok s hs).ok)
      rw [List.length_map] at hpn
      have HN := Lib.hid hN
      have HS := Lib.hid hS
      have HUR := Lib.hid hUr
      have HPN := Lib.hid hpn
      have hBr : B2 ≤ wr.heap.size := by have h1 := hUr.size; have h2 := HB2.out; omega
      clear hN hS hUr hpn
      by_cases hlt : i < m
      · have hlt2 : (i : Int) < (m : Int) := by omega
        have hi0 : (0 : Int) ≤ (i : Int) := by omega
        obtain ⟨g, cap, s, sv, hv, _, hgl, hpi, hpm, d0, d1, d2, hsv⟩ := (HL.out.up HUR.out).elem (i := i) (by rw [HM.out]; exact hlt)
        rw [HM.out] at hv
        simp only [Value.slice.injEq] at hv
        obtain ⟨rfl, _, rfl⟩ := hv
        obtain ⟨_, _, s2, sv2, _, _, _, hpi2, _, _, _, _, hsv2⟩ := HL.out.elem (i := i) (by rw [HM.out]; exact hlt)
        rw [hpi] at hpi2
        cases hpi2
        have hmem : s ∈ pl.map (·.1) := by rw [← hpm]; exact getD_mem3 (by rw [List.length_map, HM.out]; exact hlt)
        have htk : (pl.map (·.1)).take (i + 1) = (pl.map (·.1)).take i ++ [s] := by
          rw [List.take_add_one, List.getElem?_map, hpi]; rfl
        have hs3 := HLV.out.ok s hmem
        obtain ⟨sva, svc, rfl⟩ := hsv.slice
        by_cases hz : s.2.1 = 0
        · have hce := lvl_end hn hk HLV.out hmem hz (by rw [HCO.out]; exact hcc)
          rw [HCO.out] at hce
          have HCE := Lib.hid hce
          have HUF := Lib.hid (HU.out.trans HUR.out)
          obtain ⟨sn, sl0, ss⟩ := s
          dsimp only at hz d0 d1
          subst hz
          clear hpi hpm hsv hsv2 hmem htk hs3 hce
          go_wp2
          go_ret
          exact ⟨ret_int (by rw [HCE.out]), HUF.out⟩
        · have hrowf : ∀ gg, u7.ownBlock = some gg → B2 ≤ gg ∧ gg < wr.heap.size := HN.out.own.lt
          have HROWF := Lib.hid hrowf
          have hsn : SvOk wr k u7.ownBlock (.slice sva k svc) s := ⟨hsv.1, fun h0 x nn cc hx e => by
            have h8 := hsv2.1.blk h0 hx
            have h9 := (hrowf _ e.symm).1
            have := HB2.out
            omega⟩
          have HSN := Lib.hid hsn
          obtain ⟨⟨b1, t1⟩, h1e⟩ : ∃ r, doL n k s 1 (s.1 + 1) 0 = r := ⟨_, rfl⟩
          have HT1 : Hid (Ok3 n k t1) := Lib.hid (by
            have := do_ok3 hn hs3 1 (s.1 + 1) 0 (fun e => by omega)
            rw [h1e] at this; exact this)
          have HSC : Hid (Scan n k ((pl.map (·.1)).take (i + 1)) ((optS (b1, t1)).foldl addL (pn.map (·.1)))) := Lib.hid (by
            rw [htk]
            have := HS.out.step hn hs3 hz
            unfold advS at this
            rw [h1e] at this; exact this)
          have H1E := Lib.hid h1e
          have HS3 := Lib.hid hs3
          have n0 := hs3.ok.n0
          have n1 := hs3.now
          obtain ⟨sn, sl0, ss⟩ := s
          obtain ⟨t1n, t1l, t1s⟩ := t1
          dsimp only at d0 d1 n0 n1 hz
          have hz2 : (sl0 == 0) = false := by simpa using hz
          clear hpi hpm hmem htk hs3 hrowf hsn h1e hsv2 hz
          have HSV := Lib.hid hsv
          clear hsv
          have hsum : IntKind.i64.wrap (sn + 1) = sn + 1 := IntWalk.i64_in _ (by omega)
          go_upto_region 11 with fail
          go_cut [9, 10] from 34 to 50 (fun s9 s10 wx => CutS wr k u7.ownBlock (b1, t1n, t1l, t1s) s9 s10 wx)
          case first =>
            go_region_with (go_at_call 28; refine (r28_DoE hn hk (sn, sl0, ss) HS3.out 1 (sn + 1) 0 (by omega) (by omega) u7.ownBlock _ _ (HSN.out.up (by repeat (first | exact Up.refl _ | refine Up.drew ?_ | refine Up.alloc ?_ _))) (by intro gg hg; have h7 := (HROWF.out gg hg).2; simp; omega) (b1, t1n, t1l, t1s) H1E.out).mono ?_; rintro e w2 ⟨tv, rfl, htv, hu2, hor2⟩; obtain ⟨ta, tc, rfl⟩ := htv.slice; have HTV := Lib.hid htv; have HU2 := Lib.hid hu2; obtain ⟨hc2, hf2⟩ := hu2.both; clear htv hu2)
            all_goals
              go_wp2_with fail
              go_meet
              have hup : Up wr w2 := by
                refine Up.trans ?_ HU2.out
                repeat (first | exact Up.refl _ | refine Up.drew ?_ | refine Up.alloc ?_ _)
              first
                | exact ⟨w2.heap.size, ta, tc, rfl, rfl, heap_alloc_new w2 _, HTV.out.up ((Up.refl w2).alloc _), hup.alloc _⟩
                | exact ⟨wr.heap.size, ta, tc, rfl, rfl, row_set3 ((HU2.out.heap _ (by simp)).trans (heap_alloc_new wr _)) _ _ _, ⟨by
                    have hneZ : ∀ (x : Addr), Value.slice ta k tc = .slice (some x) k tc → 0 < k → x.block ≠ wr.heap.size := by
                      intro x hx h0s
                      rcases hor2 with h | h
                      · have := HSV.out.1.blk h0s (h ▸ hx)
                        omega
                      · have := h x k tc hx
                        simp at this
                        omega
                    refine ((HTV.out.1.keepZ wr.heap.size (fun x hx => ?_) 0 _).keepZ wr.heap.size (fun x hx => ?_) 1 _).keepZ wr.heap.size (fun x hx => ?_) 2 _
                    all_goals exact hneZ x hx, HTV.out.2⟩, ((hup.setCell (Nat.le_refl _) _).setCell (Nat.le_refl _) _).setCell (Nat.le_refl _) _⟩
          case rest =>
            clear hsum
            obtain ⟨Z, ta, tc, rfl, rfl, hZ, htv, hu2⟩ := hcut
            have HZ := Lib.hid hZ
            have HTV := Lib.hid htv
            have HU2 := Lib.hid hu2
            clear hZ htv hu2 d0 d1 d2
            have f0 := cell_of_row _ _ 0 _ _ _ HZ.out
            have f1 := cell_of_row _ _ 1 _ _ _ HZ.out
            have f2 := cell_of_row _ _ 2 _ _ _ HZ.out
            dsimp only at f0 f1 f2
            cases b1
            · go_wp2
              go_roundw
              case rel => exact ⟨i + 1, pn, by omega, by go_num, HN.out.up HU2.out, HSC.out, HUR.out.trans HU2.out⟩
              case measure => simp [intOf]; omega
            · go_wp2_with fail
              refine (r28_add B2 k u7 pn (t1n, t1l, t1s) _ _ (HN.out.up HU2.out) HTV.out (fun p hp => (HS.out.ok p.1 (List.mem_map.2 ⟨p, hp, rfl⟩)).ok.len) HT1.out.ok.len (by have := HU2.out.size; omega) (by have := HPN.out; omega)).mono ?_
              rintro e w3 ⟨v3, pn3, rfl, k1, k2, k3, k4⟩
              have HN3 := Lib.hid k1
              have HSC3 : Hid (Scan n k ((pl.map (·.1)).take (i + 1)) (pn3.map (·.1))) := Lib.hid (by rw [k2]; exact HSC.out)
              have HUF : Hid (Up wo w3) := Lib.hid ((HUR.out.trans HU2.out).grown k3 (fun gg hg => by rw [HB2.out]; exact (HROWF.out gg hg).1))
              clear k1 k2 k3 k4 f0 f1 f2
              go_wp2
              go_roundw
              case rel => exact ⟨i + 1, pn3, by omega, by go_num, HN3.out, HSC3.out, HUF.out⟩
              case measure => simp [intOf]; omega
      · have hlt2 : (m : Int) ≤ (i : Int) := by omega
        have hsc : Scan n k (pl.map (·.1)) (pn.map (·.1)) := by
          have := HS.out
          rw [List.take_of_length_le (by rw [List.length_map, HM.out]; omega)] at this
          exact this
        obtain ⟨l', hf', hlv', hnd'⟩ := lvl_next hn hk HLV.out hsc
        have hlt9 := lvl_lt hn hk HLV.out hsc.left (by rw [HCO.out]; exact hcc)
        rw [HCO.out] at hlt9
        have HF' := Lib.hid hf'
        have HLV' := Lib.hid hlv'
        have HND' := Lib.hid hnd'
        have HOKN : Hid (∀ s ∈ pn.map (·.1), Ok3 n k s) := Lib.hid hsc.ok
        clear hsc hf' hlv' hnd'
        go_wp2_with fail
        refine (r28_free n k hn hk B2 u7 pn wr HN.out HOKN.out hBr l' HF'.out (by have := HPN.out; omega)).mono ?_
        rintro e x5 ⟨v5, pl5, rfl, k1, k2, k3⟩
        have HN5 := Lib.hid k1
        have HLV5 : Hid (Lvl n k (c + 1) (pl5.map (·.1))) := Lib.hid (by rw [k2]; exact HLV'.out)
        have HND5 : Hid ((pl5.map (·.1)).Nodup) := Lib.hid (by rw [k2]; exact HND'.out)
        have HU5 : Hid (Up w x5) := Lib.hid (HU.out.trans (by
          have h1 := HUR.out
          unfold Up at h1 ⊢
          rw [HB2.out] at h1 ⊢
          exact h1.trans k3))
        clear k1 k2 k3
        go_wp2
        go_roundw
        case rel => exact ⟨c + 1, B2, pl5, by go_num, by omega, HN5.out, HLV5.out, HND5.out, HU5.out⟩
        case measure => simp [intOf]; omega
end Go.Proofs.Ytdanjghefhjmcaa
