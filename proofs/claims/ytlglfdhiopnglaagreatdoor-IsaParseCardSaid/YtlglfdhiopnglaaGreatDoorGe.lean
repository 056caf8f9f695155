/-
  Joined by a program: IsB, IsF, IsQ, IsR, IsC.
-/
import Derived.Test.YtlglfdhiopnglaaGreatDoorShelf
import Derived.Test.YtlglfdhiopnglaaGreatDoorGa
import Derived.Test.YtlglfdhiopnglaaGreatDoorGd
import Derived.Lib.AtoiAll
import Derived.Lib.Split
import Derived.Shelf.Strings.SlTrimAscii

section
namespace Go.Proofs.YtlglfdhiopnglaaGreatDoor
open Go.ChangeShapes Go.WideShapes Go.ChangeAt Go.RowKit
set_option linter.unusedVariables false
set_option linter.unusedSimpArgs false
set_option maxRecDepth 100000

theorem bld_size : (Tryz.prog.info? 57).map (·.size) = some 2 := by kernel_rfl
theorem bld_lies : liesAt Tryz.prog Tryz.prog.depth 57 (2 / Tryz.prog.cellsOf 57) 0 57 1 = true := by kernel_rfl
theorem byte_info : (Tryz.prog.info? 5).map (fun i => (i.zero, i.size, i.bytes)) = some (some (.int .u8 0), 1, 1) := by kernel_rfl
/-- The builder at b, of a call that began with B blocks, holds bs. -/
abbrev Bld (B b : Nat) (bs : List Value) (w : World) : Prop := Lib.IsBuilder 57 5 B b bs w

set_option maxHeartbeats 1000000 in
theorem bld_check_used (b : Nat) (w : World) (h0 : w.cell? ⟨b, 0, none⟩ = some (.pointer (some ⟨b, 0, none⟩))) :
    Calls Tryz.prog 54 #[.pointer (some ⟨b, 0, none⟩)] w fun e w' => e = .returned (.tuple #[]) ∧ w' = w := by
  obtain ⟨j, hj, _⟩ := Option.map_eq_some_iff.1 bld_size
  go_enter Tryz.func54, Tryz.ntmps54
  go_wp2
  rw [Lib.run_neq_ptr_same w _ Tryz.underlying54 hj]
  go_wp2
  go_end0
  exact ⟨rfl, rfl⟩
set_option maxHeartbeats 1000000 in
theorem bld_check_fresh (b : Nat) (w : World) (h0 : w.cell? ⟨b, 0, none⟩ = some (.pointer none)) (hsh : w.shape? b = some (57, 2)) (hfz : w.frozen? ⟨b, 0, none⟩ = false) :
    Calls Tryz.prog 54 #[.pointer (some ⟨b, 0, none⟩)] w fun e w' => e = .returned (.tuple #[]) ∧ w' = w.setCell ⟨b, 0, none⟩ (.pointer (some ⟨b, 0, none⟩)) := by
  obtain ⟨j, hj, hjs⟩ := Option.map_eq_some_iff.1 bld_size
  go_enter Tryz.func54, Tryz.ntmps54
  go_wp2
  rw [Lib.run_to_unsafe w ⟨b, 0, none⟩ Tryz.underlying54 Tryz.underlying107 hj (by rw [hjs]; decide) hsh (Nat.zero_lt_succ 1)]
  simp only [Result.andThen]
  rw [Oper.upon_value]
  go_wp2
  rw [run_callFunc_extern Tryz.func77 (by kernel_rfl) (by kernel_rfl) (by kernel_rfl) (e := Extern.AbiNoEscape.same) (by kernel_rfl)]
  rw [Lib.run_noEscape]
  simp only [Result.andThen]
  rw [Oper.upon_value]
  go_wp2
  rw [Lib.run_from_unsafe w ⟨b, 0, none⟩ Tryz.underlying107 Tryz.underlying54 hj hsh bld_lies]
  simp only [Result.andThen]
  rw [Oper.upon_value]
  go_wp2
  go_end0
  exact ⟨rfl, rfl⟩
theorem bld_check (B b : Nat) (bs : List Value) (w : World) (h : Bld B b bs w) :
    Calls Tryz.prog 54 #[.pointer (some ⟨b, 0, none⟩)] w fun e w' => e = .returned (.tuple #[]) ∧ (Lib.BuilderAt 57 5 B b (.pointer (some ⟨b, 0, none⟩)) bs w' ∧ Below B w w') := by
  rcases h with h | h
  · refine (bld_check_fresh b w h.cell0 h.shape h.frozen0).mono ?_
    rintro e w' ⟨rfl, rfl⟩
    exact ⟨rfl, h.used _, (Below.refl B w).setCell (p := ⟨b, 0, none⟩) h.1 _⟩
  · refine (bld_check_used b w h.cell0).mono ?_
    rintro e w' ⟨rfl, rfl⟩
    exact ⟨rfl, h, Below.refl B _⟩
set_option maxHeartbeats 2000000 in
theorem bld_WriteString (B b : Nat) (bs : List Value) (s : ByteArray) (w : World) (h : Bld B b bs w) (hlen : bs.length + s.size ≤ 140737488355328) (hBw : B ≤ w.heap.size) :
    Calls Tryz.prog 31 #[.pointer (some ⟨b, 0, none⟩), .string s] w fun e w' => e = .returned (.tuple #[.int .i64 s.size, .nilIface]) ∧ (Bld B b (bs ++ Lib.strCells s) w' ∧ Below B w w') := by
  obtain ⟨i0, hi, hz0, hz1, hz2⟩ := info_parts byte_info
  go_enter Tryz.func31, Tryz.ntmps31
  go_wp2_with fail
  refine (bld_check B b bs _ h).mono ?_
  rintro e w1 ⟨rfl, h1, hb1⟩
  obtain ⟨hB, v, hbk, hown, hne⟩ := h1
  have c0 : w1.cell? ⟨b, 0, none⟩ = some (.pointer (some ⟨b, 0, none⟩)) := by rw [Lib.cell_of_heap hbk]; rfl
  have c1 : w1.cell? ⟨b, 1, none⟩ = some v := by rw [Lib.cell_of_heap hbk]; rfl
  go_wp2_with (at_builtin; refine Lib.wpList_append_own_string _ rfl _ _ 55 9 rfl B 5 i0 Tryz.underlying55 Tryz.underlying9 hi hz0 hz1 hz2 _ _ _ rfl hown s rfl ?c3 ?c4 ?c5 ?_)
  case c3 => unfold maxLen; omega
  case c4 => omega
  case c5 => have := hb1.size; omega
  intro v' w2 hown' hgrow _
  have hlt : b < w1.heap.size := by
    rcases Nat.lt_or_ge b w1.heap.size with h' | h'
    · exact h'
    · simp [Array.getElem?_eq_none h'] at hbk
  have hb2 : w2.heap[b]? = some (.cells #[.pointer (some ⟨b, 0, none⟩), v] 57 (0, 0)) := by
    rw [hgrow.block b hlt (fun e => hne e.symm)]
    exact hbk
  have d0 : w2.cell? ⟨b, 0, none⟩ = some (.pointer (some ⟨b, 0, none⟩)) := by rw [Lib.cell_of_heap hb2]; rfl
  have d1 : w2.cell? ⟨b, 1, none⟩ = some v := by rw [Lib.cell_of_heap hb2]; rfl
  have f1 : w2.frozen? ⟨b, 1, none⟩ = false := Lib.frozen_of_heap hb2 1
  obtain ⟨ao, n', cap, rfl⟩ : ∃ ao n' cap, v' = .slice ao n' cap := by
    rcases hown'.2 with ⟨hv, _⟩ | ⟨g, cap, cur, hv, _⟩
    · exact ⟨_, _, _, hv⟩
    · exact ⟨_, _, _, hv⟩
  go_wp2
  go_ret2
  refine ⟨rfl, .inr ?_, ?_⟩
  · exact Lib.BuilderAt.put (T := 57) (e := 5) hB hb2 (bs' := bs ++ Lib.strCells s) (by simpa [Lib.strCells_length] using hown') (by decide)
  · exact (hb1.grown hgrow (by have := hb1.size; omega) (fun k hk => (hown.lt k hk).1)).setCell (p := ⟨b, 1, none⟩) hB _
def Stopped (p : Prop) : Prop := p
theorem stop {p : Prop} (h : Stopped p) : p := h
set_option maxHeartbeats 2000000 in
theorem bld_WriteByte (B b : Nat) (bs : List Value) (c : UInt8) (w : World) (h : Bld B b bs w) (hlen : bs.length + 1 ≤ 140737488355328) (hBw : B ≤ w.heap.size) :
    Calls Tryz.prog 33 #[.pointer (some ⟨b, 0, none⟩), .int .u8 c.toNat] w fun e w' => e = .returned .nilIface ∧ (Bld B b (bs ++ [.int .u8 (c.toNat : Int)]) w' ∧ Below B w w') := by
  obtain ⟨i0, hi, hz0, hz1, hz2⟩ := info_parts byte_info
  go_enter Tryz.func33, Tryz.ntmps33
  go_wp2_with fail
  refine (bld_check B b bs _ h).mono ?_
  rintro e w1 ⟨rfl, h1, hb1⟩
  obtain ⟨hB, v, hbk, hown, hne⟩ := h1
  have c0 : w1.cell? ⟨b, 0, none⟩ = some (.pointer (some ⟨b, 0, none⟩)) := by rw [Lib.cell_of_heap hbk]; rfl
  have c1 : w1.cell? ⟨b, 1, none⟩ = some v := by rw [Lib.cell_of_heap hbk]; rfl
  have f1' : w1.frozen? ⟨b, 1, none⟩ = false := Lib.frozen_of_heap hbk 1
  have hbl : b < w1.heap.size := (Array.getElem?_eq_some_iff.1 hbk).1
  have HA := Lib.hid ((Up.refl w1).alloc (.cells #[.int .u8 (c.toNat : Int)] 5))
  have hn63 : bs.length + 1 ≤ maxLen := by unfold maxLen; omega
  have HBS : Hid (B ≤ w1.heap.size) := Lib.hid (by have := hb1.size; omega)
  go_wp2_with (at_builtin; refine stop ?_)
  unfold Stopped
  refine wpList_append_sl _ rfl _ _ 55 rfl B 5 i0 _ 1 1 Tryz.underlying55 hi hz0 hz1 hz2 rfl (by decide) v bs.length _ rfl (own_up' hown HA.out) (.slice (some ⟨w1.heap.size, 0, none⟩) 1 1) 1 (fun _ _ => .int .u8 (c.toNat : Int)) rfl (SlAt.lay w1 _ #[.int .u8 (c.toNat : Int)] 1 1 _ (by decide) (fun i j hi hj => by obtain rfl : i = 0 := (by omega); obtain rfl : j = 0 := (by omega); rfl)) (fun i j _ _ => rfl) hn63 (by omega) (Nat.le_trans HBS.out HA.out.size) ?_
  intro v' w2 hown' hgrow hat hnil
  have ef : flat (fun (_ _ : Nat) => Value.int .u8 (c.toNat : Int)) 1 1 = [.int .u8 (c.toNat : Int)] := rfl
  rw [ef] at hown'
  have hlt : b < w1.heap.size := by
    rcases Nat.lt_or_ge b w1.heap.size with h' | h'
    · exact h'
    · simp [Array.getElem?_eq_none h'] at hbk
  have hb2 : w2.heap[b]? = some (.cells #[.pointer (some ⟨b, 0, none⟩), v] 57 (0, 0)) := by
    rw [hgrow.block b (Nat.lt_of_lt_of_le hlt HA.out.size) (fun e => hne e.symm)]
    exact (HA.out.heap b hlt).trans hbk
  have d0 : w2.cell? ⟨b, 0, none⟩ = some (.pointer (some ⟨b, 0, none⟩)) := by rw [Lib.cell_of_heap hb2]; rfl
  have d1 : w2.cell? ⟨b, 1, none⟩ = some v := by rw [Lib.cell_of_heap hb2]; rfl
  have f1 : w2.frozen? ⟨b, 1, none⟩ = false := Lib.frozen_of_heap hb2 1
  obtain ⟨ao, n', cap, rfl⟩ : ∃ ao n' cap, v' = .slice ao n' cap := by
    rcases hown'.2 with ⟨hv, _⟩ | ⟨g, cap, cur, hv, _⟩
    · exact ⟨_, _, _, hv⟩
    · exact ⟨_, _, _, hv⟩
  go_wp2
  go_ret
  refine ⟨rfl, .inr ?_, ?_⟩
  · exact Lib.BuilderAt.put (T := 57) (e := 5) hB hb2 (bs' := bs ++ [.int .u8 (c.toNat : Int)]) (by simpa [Lib.strCells_length] using hown') (by decide)
  · exact ((hb1.alloc HBS.out _).grown hgrow (by have := HBS.out; have := HA.out.size; omega) (fun k hk => (hown.lt k hk).1)).setCell (p := ⟨b, 1, none⟩) hB _
theorem Bld.up {B b : Nat} {bs : List Value} {w w' : World} (h : Bld B b bs w) (u : Up w w') : Bld B b bs w' := by
  have key : ∀ p, Lib.BuilderAt 57 5 B b p bs w → Lib.BuilderAt 57 5 B b p bs w' := fun p ⟨h1, v, h2, h3, h4⟩ =>
    ⟨h1, v, (u.heap b (Array.getElem?_eq_some_iff.1 h2).1).trans h2, own_up' h3 u, h4⟩
  rcases h with h | h
  · exact .inl (key _ h)
  · exact .inr (key _ h)
theorem Bld.new (w : World) : Bld w.heap.size w.heap.size [] (w.alloc (.cells #[.pointer none, .slice none 0 0] 57)) :=
  .inl ⟨Nat.le_refl _, .slice none 0 0, heap_alloc_new w _, World.ownsRow_nil _ _ _ _, by simp [Value.ownBlock]⟩

end Go.Proofs.YtlglfdhiopnglaaGreatDoor
end

section
namespace Go.Proofs.YtlglfdhiopnglaaGreatDoor
open Go.ChangeShapes Go.WideShapes Go.ChangeAt Go.RowKit
set_option linter.unusedVariables false
set_option linter.unusedSimpArgs false
set_option maxRecDepth 100000

theorem textL_snoc (l : List Ins) (x : Ins) : textL (l ++ [x]) = textL l ++ (lineL x ++ [10]) := by simp [textL]
theorem wf_known {x : Ins} (h : wfB x = true) : knownB x.1 = true := by
  unfold wfB at h
  simp only [Bool.and_eq_true] at h
  exact h.1
theorem byte_app (a b : List UInt8) : Lib.byteCells a ++ Lib.byteCells b = Lib.byteCells (a ++ b) := by simp [Lib.byteCells]
set_option maxHeartbeats 8000000 in
theorem isa_Format (v : Value) (l : List Ins) (w : World) (hv : InsAt w v l) (hlen : l.length ≤ 100000) (ht : FTab w) (hI : ITab w) (hW : WTab w) :
    Calls Tryz.prog 12 #[v] w fun e w' => e = .returned (.string (bst (formatL l))) ∧ Up w w' := by
  obtain ⟨T, hT⟩ : ∃ T, formatL l = T := ⟨_, rfl⟩
  rw [hT]
  unfold formatL at hT
  obtain ⟨⟨a, cap, rfl⟩, hm⟩ := hv.slice
  obtain ⟨n, hn⟩ : ∃ n, l.length = n := ⟨_, rfl⟩
  rw [hn] at hlen ⊢
  have hnI : (n : Int) ≤ 100000 := by omega
  have HV := Lib.hid hv
  rw [hn] at HV
  have HN := Lib.hid hn
  have HT := Lib.hid hT
  have HWF := Lib.hid (fun x (hx : InR x) x' (h : Up w x') => isa_wellFormed x hx x' (hI.up h))
  have HLN := Lib.hid (fun x (hx : InR x) hk x' (h : Up w x') => isa_line x hx hk x' (ht.up h) (hI.up h) (hW.up h))
  have HWS := Lib.hid (fun bs s x (h1 : Bld w.heap.size w.heap.size bs x) h2 h3 => bld_WriteString w.heap.size w.heap.size bs s x h1 h2 h3)
  have HWB : Hid (∀ bs x, Bld w.heap.size w.heap.size bs x → bs.length + 1 ≤ 140737488355328 → w.heap.size ≤ x.heap.size → Calls Tryz.prog 33 #[.pointer (some ⟨w.heap.size, 0, none⟩), .int .u8 10] x fun e w' => e = .returned .nilIface ∧ (Bld w.heap.size w.heap.size (bs ++ Lib.byteCells [10]) w' ∧ Below w.heap.size x w')) := Lib.hid (fun bs x h1 h2 h3 => bld_WriteByte w.heap.size w.heap.size bs 10 x h1 h2 h3)
  have HB0 := Lib.hid (Bld.new w)
  have HU0 := Lib.hid ((Up.refl w).alloc (.cells #[.pointer none, .slice none 0 0] 57))
  clear hv hn hT ht hI hW hm
  go_enter Tryz.func12, Tryz.ntmps12
  go_wp2
  go_loopw [8] (fun jv wr => ∃ (j : Nat), j ≤ n ∧ jv = .int .i64 j ∧ Up w wr ∧ Bld w.heap.size w.heap.size (Lib.byteCells (textL (l.take j))) wr ∧ (∀ x ∈ l.take j, wfB x = true) ∧ (textL (l.take j)).length ≤ 367 * j) (fun jv _ => n - (intOf jv).toNat)
  case atStart => exact ⟨0, by omega, rfl, HU0.out, HB0.out, by simp, by simp [textL]⟩
  case round =>
    rename World => wr
    obtain ⟨j, hj, rfl, hup, hbd, hwf, hln⟩ := hrel
    have HU := Lib.hid hup
    have HBD := Lib.hid hbd
    have HWA := Lib.hid hwf
    have HLE := Lib.hid hln
    clear hup hbd hwf hln
    by_cases hlt : j < n
    · have hltI : (j : Int) < n := by omega
      obtain ⟨x, hx⟩ : ∃ x, l.getD j i0 = x := ⟨_, rfl⟩
      obtain ⟨bl, off, ha, hbl, ⟨c0, c1, c2, c3, c4, c5, c6, c7, c8, c9, c10⟩, hin⟩ := HV.out.elem HU.out j (by rw [HN.out]; exact hlt) HN.out rfl hx
      subst ha
      have htk : l.take (j + 1) = l.take j ++ [x] := by
        have hjl : j < l.length := by rw [HN.out]; exact hlt
        rw [List.take_succ_eq_append_getElem hjl, ← hx, List.getD_eq_getElem?_getD, List.getElem?_eq_getElem hjl]; rfl
      have hmem : x ∈ l := by
        have hjl : j < l.length := by rw [HN.out]; exact hlt
        rw [← hx, List.getD_eq_getElem?_getD, List.getElem?_eq_getElem hjl]
        exact List.getElem_mem hjl
      have HTK := Lib.hid htk
      have HIN := Lib.hid hin
      have hbw : bl < wr.heap.size := Nat.lt_of_lt_of_le hbl HU.out.size
      obtain ⟨wf, hwf⟩ : ∃ r, wfB x = r := ⟨_, rfl⟩
      have HWX := Lib.hid (fun x' h => HWF.out x hin x' h)
      rw [hwf] at HWX
      have HLX := Lib.hid (fun hk x' h => HLN.out x hin hk x' h)
      have HLL := Lib.hid (lineL_len hin)
      have HKN := Lib.hid (fun h : wfB x = true => wf_known h)
      rw [hwf] at HKN
      have HA : Hid (Up wr (wr.alloc (.cells #[.int .i64 x.1, .int .i64 x.2.1, .int .i64 x.2.2.1, .int .i64 x.2.2.2.1, .int .i64 x.2.2.2.2.1.1, .int .i64 x.2.2.2.2.1.2, .int .i64 x.2.2.2.2.2.1, .int .i64 x.2.2.2.2.2.2.1, .int .i64 x.2.2.2.2.2.2.2.1, .int .i64 x.2.2.2.2.2.2.2.2.1, .int .i64 x.2.2.2.2.2.2.2.2.2] 42))) := Lib.hid ((Up.refl wr).alloc _)
      have HBX : Hid (BoxC (wr.alloc (.cells #[.int .i64 x.1, .int .i64 x.2.1, .int .i64 x.2.2.1, .int .i64 x.2.2.2.1, .int .i64 x.2.2.2.2.1.1, .int .i64 x.2.2.2.2.1.2, .int .i64 x.2.2.2.2.2.1, .int .i64 x.2.2.2.2.2.2.1, .int .i64 x.2.2.2.2.2.2.2.1, .int .i64 x.2.2.2.2.2.2.2.2.1, .int .i64 x.2.2.2.2.2.2.2.2.2] 42)) wr.heap.size 42 #[.int .i64 x.1, .int .i64 x.2.1, .int .i64 x.2.2.1, .int .i64 x.2.2.2.1, .int .i64 x.2.2.2.2.1.1, .int .i64 x.2.2.2.2.1.2, .int .i64 x.2.2.2.2.2.1, .int .i64 x.2.2.2.2.2.2.1, .int .i64 x.2.2.2.2.2.2.2.1, .int .i64 x.2.2.2.2.2.2.2.2.1, .int .i64 x.2.2.2.2.2.2.2.2.2]) := Lib.hid (BoxC.new wr _ _)
      have HWX2 := Lib.hid hwf
      clear htk hin hx hwf
      cases wf
      · have HE : Hid (T = []) := Lib.hid (by
          rw [← HT.out, if_neg]
          intro h
          rw [List.all_eq_true] at h
          have := h x hmem
          rw [HWX2.out] at this; cases this)
        clear hmem
        go_wp2_with (go_at_call 30; refine (HWX.out _ (HU.out.trans HA.out)).mono ?_; rintro e x1 ⟨rfl, hx1⟩; have HX1 := Lib.hid hx1; clear hx1)
        go_ret
        exact ⟨ret_str (by rw [HE.out]; rfl), (HU.out.trans HA.out).trans HX1.out⟩
      · have HK := Lib.hid (HKN.out rfl)
        have HLC := Lib.hid (fun x' h => HLX.out HK.out x' h)
        obtain ⟨LL, hLL⟩ : ∃ LL, lineL x = LL := ⟨_, rfl⟩
        have HTX := Lib.hid (textL_snoc (l.take j) x)
        rw [hLL] at HLC HLL HTX
        have h3 : (Lib.byteCells (textL (l.take j))).length = (textL (l.take j)).length := by simp [Lib.byteCells]
        have h4 : (bst LL).size = LL.length := by simp [bst, ByteArray.size]
        have h5 : (Lib.strCells (bst LL)).length = LL.length := by simp [bst, Lib.strCells]
        have h1 := HLE.out
        have h2 := HLL.out
        have HBD1 : Hid ((Lib.byteCells (textL (l.take j))).length + (bst LL).size ≤ 140737488355328) := Lib.hid (by omega)
        have HBD2 : Hid ((Lib.byteCells (textL (l.take j)) ++ Lib.strCells (bst LL)).length + 1 ≤ 140737488355328) := Lib.hid (by rw [List.length_append]; omega)
        clear hmem HLX HKN HLN hLL h1 h2 h3 h4 h5
        go_wp2_with (first
          | (go_at_call 30; refine (HWX.out _ (HU.out.trans HA.out)).mono ?_; rintro e x1 ⟨rfl, hx1⟩; have HX1 := Lib.hid ((HU.out.trans HA.out).trans hx1); have HD1 := Lib.hid ((HBD.out.up HA.out).up hx1); have HBX1 := Lib.hid (HBX.out.up hx1); clear hx1; have i0 := cell_of_row _ _ 0 _ _ _ HBX1.out; have i1 := cell_of_row _ _ 1 _ _ _ HBX1.out; have i2 := cell_of_row _ _ 2 _ _ _ HBX1.out; have i3 := cell_of_row _ _ 3 _ _ _ HBX1.out; have i4 := cell_of_row _ _ 4 _ _ _ HBX1.out; have i5 := cell_of_row _ _ 5 _ _ _ HBX1.out; have i6 := cell_of_row _ _ 6 _ _ _ HBX1.out; have i7 := cell_of_row _ _ 7 _ _ _ HBX1.out; have i8 := cell_of_row _ _ 8 _ _ _ HBX1.out; have i9 := cell_of_row _ _ 9 _ _ _ HBX1.out; have i10 := cell_of_row _ _ 10 _ _ _ HBX1.out)
          | (go_at_call 32; refine (HLC.out _ HX1.out).mono ?_; rintro e x2 ⟨rfl, hx2⟩; have HX2 := Lib.hid (HX1.out.trans hx2); have HD2 := Lib.hid (HD1.out.up hx2); clear hx2 i0 i1 i2 i3 i4 i5 i6 i7 i8 i9 i10)
          | (go_at_call 31; refine (HWS.out _ _ _ HD2.out HBD1.out HX2.out.size).mono ?_; rintro e x3 ⟨rfl, hd3, hb3⟩; have HD3 := Lib.hid hd3; have HX3 := Lib.hid (Below.trans HX2.out hb3); clear hd3 hb3)
          | (go_at_call 33; refine (HWB.out _ _ HD3.out HBD2.out HX3.out.size).mono ?_; rintro e x4 ⟨rfl, hd4, hb4⟩; have HD4 := Lib.hid hd4; have HX4 := Lib.hid (Below.trans HX3.out hb4); clear hd4 hb4))
        have HDN : Hid (Bld w.heap.size w.heap.size (Lib.byteCells (textL (l.take (j + 1)))) x4) := Lib.hid (by
          have h := HD4.out
          rw [show Lib.strCells (bst LL) = Lib.byteCells LL from rfl, byte_app, byte_app, List.append_assoc] at h
          rw [HTK.out, HTX.out]
          exact h)
        try go_roundw
        case rel => exact ⟨j + 1, by omega, by go_num, HX4.out, HDN.out, by
          rw [HTK.out]
          intro y hy
          rcases List.mem_append.1 hy with hy | hy
          · exact HWA.out y hy
          · rw [List.mem_singleton.1 hy]; exact HWX2.out, by
          rw [HTK.out, HTX.out]
          have h1 := HLE.out
          have h2 := HLL.out
          simp only [List.length_append, List.length_cons, List.length_nil]
          omega⟩
        case measure => simp [intOf]; omega
    · obtain rfl : j = n := by omega
      have hall : l.take j = l := by rw [List.take_of_length_le (by rw [HN.out]; exact Nat.le_refl _)]
      have HE : Hid (T = textL l) := Lib.hid (by
        rw [← HT.out, if_pos]
        rw [List.all_eq_true]
        intro y hy
        exact HWA.out y (by rw [hall]; exact hy))
      have HST := Lib.hid (Tryz.Builder_String_any w.heap.size w.heap.size (textL (l.take j)) wr HBD.out HU.out.size)
      rw [hall] at HST
      clear hall
      go_wp2_with (go_at_call 34; refine HST.out.mono ?_; rintro e x5 ⟨rfl, hx5⟩; have HX5 := Lib.hid (Below.trans HU.out hx5); clear hx5)
      go_ret
      exact ⟨ret_str (by rw [HE.out]; rfl), HX5.out⟩
end Go.Proofs.YtlglfdhiopnglaaGreatDoor
end

section
namespace Go.Proofs.YtlglfdhiopnglaaGreatDoor
open Go.ChangeShapes Go.WideShapes Go.ChangeAt Go.RowKit
set_option linter.unusedVariables false
set_option linter.unusedSimpArgs false

def strF (l : List ByteArray) (i _j : Nat) : Value := .string (l.getD i ⟨#[]⟩)
def StrsAt (w : World) (v : Value) (l : List ByteArray) : Prop := SlAt w v l.length 1 (strF l)
theorem StrsAt.up {w w' : World} {v : Value} {l : List ByteArray} (h : StrsAt w v l) (u : Up w w') : StrsAt w' v l := SlAt.up h u
theorem StrsAt.get {w : World} {v : Value} {l : List ByteArray} (h : StrsAt w v l) {a : Option Addr} {n c : Nat} (hv : v = .slice a n c) (k : Nat) (hk : k < n) : ∃ g o, a = some ⟨g, o, none⟩ ∧ g < w.heap.size ∧ w.cell? ⟨g, o + k, none⟩ = some (.string (l.getD k ⟨#[]⟩)) := by
  subst hv
  obtain ⟨⟨a', c', e, h0, hc⟩, _⟩ := h
  simp only [Value.slice.injEq] at e
  obtain ⟨rfl, rfl, rfl⟩ := e
  cases a with
  | none => have := h0 rfl; omega
  | some y =>
    obtain ⟨g1, g2, g3⟩ := hc y rfl (by omega)
    obtain ⟨g, o, sp⟩ := y
    have : sp = none := g1
    subst this
    have := g3 k 0 hk (by decide)
    exact ⟨g, o, rfl, g2, by simpa [strF] using this⟩
theorem StrsAt.slice {w : World} {v : Value} {l : List ByteArray} (h : StrsAt w v l) : (∃ a cap, v = .slice a l.length cap) ∧ l.length ≤ 9223372036854775807 := by
  obtain ⟨⟨a, cap, hv, _, _⟩, hm⟩ := h
  exact ⟨⟨a, cap, hv⟩, hm⟩

/-- The operator with a name. -/
def rdNameG (s : List UInt8) : Nat → Int → Int
  | 0, _ => 0
  | n + 1, op => if opnL op = s ∧ s ≠ [] then op else rdNameG s n (op + 1)
def rdName (s : List UInt8) : Int := rdNameG s 12 4
/-- What Atoi gives, its error left aside. -/
def atoiV (s : List UInt8) : Int := match Lib.atoiAll s with
  | .ok v => v
  | Lib.NumEnd.syntax => 0
  | .range => Lib.atoiSat s
/-- The last of 1 .. k whose name is s. -/
def rdLast (f : Int → List UInt8) (s : List UInt8) : Nat → Int
  | 0 => 0
  | k + 1 => if f ((k : Int) + 1) = s then (k : Int) + 1 else rdLast f s k
def rdRnd (s : List UInt8) : Int := rdLast rndL s 4
def rdOvr (s : List UInt8) : Int := rdLast ovrL s 2
def rdType (l : List (List UInt8)) : Typ :=
  if l.length = 1 ∧ l.getD 0 [] = [102, 114, 97, 99] then (1, 0, 0, 0, 0)
  else if l.length = 1 ∧ l.getD 0 [] = [105, 110, 116] then (3, 0, 0, 0, 0)
  else if l.length ≠ 5 ∨ l.getD 0 [] ≠ [102, 105, 120] then y0
  else (2, atoiV (l.getD 1 []), atoiV (l.getD 2 []), rdRnd (l.getD 3 []), rdOvr (l.getD 4 []))
end Go.Proofs.YtlglfdhiopnglaaGreatDoor
end

section
namespace Go.Proofs.YtlglfdhiopnglaaGreatDoor
open Go.ChangeShapes Go.WideShapes Go.ChangeAt Go.RowKit
set_option linter.unusedVariables false
set_option linter.unusedSimpArgs false
set_option maxRecDepth 100000

theorem bst_list (l : List UInt8) : (bst l).toList = l := by rw [Lib.toList_data]; rfl
set_option maxHeartbeats 4000000 in
theorem isa_readName (s : ByteArray) (w : World) : Calls Tryz.prog 65 #[.string s] w fun e w' => e = .returned (.int .i64 (rdName s.toList)) ∧ w' = w := by
  obtain ⟨r, hr⟩ : ∃ r, rdName s.toList = r := ⟨_, rfl⟩
  rw [hr]
  unfold rdName at hr
  obtain ⟨sl, hsl⟩ : ∃ sl, s.toList = sl := ⟨_, rfl⟩
  rw [hsl] at hr
  have HR := Lib.hid hr
  clear hr
  go_enter Tryz.func65, Tryz.ntmps65
  go_wp2
  go_loopw [3] (fun ov wr => ∃ (k m : Nat), ov = .int .i64 k ∧ k + m = 16 ∧ rdNameG sl m (k : Int) = r ∧ 4 ≤ k ∧ wr = w) (fun ov _ => 16 - (intOf ov).toNat)
  case atStart => exact ⟨4, 12, rfl, rfl, HR.out, by omega, rfl⟩
  case round =>
    obtain ⟨k, m, rfl, hkm, hg, h4, hw⟩ := hrel
    replace hw := hw.symm
    subst hw
    have HG := Lib.hid hg
    clear hg
    have HON := Lib.hid (fun x => isa_operatorName k x)
    by_cases hlt : k < 16
    · have hltI : (k : Int) ≤ 15 := by omega
      obtain ⟨m, rfl⟩ : ∃ q, m = q + 1 := ⟨m - 1, by omega⟩
      obtain ⟨ol, hol⟩ : ∃ ol, opnL k = ol := ⟨_, rfl⟩
      have HGG : Hid ((if ol = sl ∧ sl ≠ [] then (k : Int) else rdNameG sl m ((k : Int) + 1)) = r) := Lib.hid (by rw [← HG.out, ← hol]; rfl)
      rw [hol] at HON
      clear hol
      go_wp2_with (go_at_call 81; refine (HON.out _).mono ?_; rintro e x ⟨rfl, rfl⟩)
      · rename_i q1 q2
        rw [bst_list] at q1
        go_ret
        refine ⟨ret_int ?_, rfl⟩
        rw [← HGG.out, if_pos ⟨q1, by intro h; rw [h] at q2; cases q2⟩]
      · rename_i q1 q2
        have hnil : sl = [] := by cases sl with
          | nil => rfl
          | cons a b => cases q2
        have HN : Hid (rdNameG sl m ((k : Int) + 1) = r) := Lib.hid (by rw [← HGG.out, if_neg (fun h => h.2 hnil)])
        clear hnil q1 q2
        go_roundw
        case rel => exact ⟨k + 1, m, by go_num, by omega, by have := HN.out; rw [← this]; congr 1, by omega, by trivial⟩
        case measure => simp [intOf]; omega
      · rename_i q1
        rw [bst_list] at q1
        have HN : Hid (rdNameG sl m ((k : Int) + 1) = r) := Lib.hid (by rw [← HGG.out, if_neg (fun h => q1 h.1)])
        clear q1
        go_roundw
        case rel => exact ⟨k + 1, m, by go_num, by omega, by have := HN.out; rw [← this]; congr 1, by omega, by trivial⟩
        case measure => simp [intOf]; omega
    · have hge : ¬ (k : Int) ≤ 15 := by omega
      obtain rfl : m = 0 := by omega
      have HE : Hid (r = 0) := Lib.hid (by rw [← HG.out]; rfl)
      clear HG HON
      go_wp2
      go_ret
      exact ⟨ret_int (by rw [HE.out]), rfl⟩
end Go.Proofs.YtlglfdhiopnglaaGreatDoor
end

section
namespace Go.Proofs.YtlglfdhiopnglaaGreatDoor
open Go.ChangeShapes Go.WideShapes Go.ChangeAt Go.RowKit
set_option linter.unusedVariables false
set_option linter.unusedSimpArgs false
set_option maxRecDepth 100000

/-- What the reading side asks of the package variables. -/
structure RdW (w : World) : Prop where
  len : ∃ m : Int, w.cell? ⟨1, 0, none⟩ = some (.int .i64 m)
  es : ∃ tp p, w.cell? ⟨5, 0, none⟩ = some (.iface tp p)
  er : ∃ tp p, w.cell? ⟨6, 0, none⟩ = some (.iface tp p)
theorem cell_up {w w' : World} (u : Up w w') {b o : Nat} {v : Value} (h : w.cell? ⟨b, o, none⟩ = some v) : w'.cell? ⟨b, o, none⟩ = some v := (u.cell _ _ (World.block_lt_of_cell? _ _ h)).trans h
theorem RdW.up {w w' : World} (h : RdW w) (u : Up w w') : RdW w' :=
  ⟨let ⟨m, hm⟩ := h.len; ⟨m, cell_up u hm⟩, let ⟨t, p, hm⟩ := h.es; ⟨t, p, cell_up u hm⟩, let ⟨t, p, hm⟩ := h.er; ⟨t, p, cell_up u hm⟩⟩
theorem up_bytes {w x : World} (h : Up w x) (e : TypeId) (s : ByteArray) : Up w (Lib.bytesWorld x e s) := by
  unfold Lib.bytesWorld
  exact Lib.below_freeze (p := ⟨x.heap.size, _, none⟩) (Up.alloc (Up.drew h) _) h.size 1
theorem s_Atoi (s : ByteArray) (hs : s.size ≤ 1000000) (w : World) (hR : RdW w) :
    Calls Tryz.prog 92 #[.string s] w fun e w' => ∃ ev, e = .returned (.tuple #[.int .i64 (atoiV s.toList), ev]) ∧ Up w w' := by
  rw [Lib.toList_data]
  unfold atoiV
  match h : Lib.atoiAll s.data.toList with
  | .ok v =>
    refine (Tryz.strconv_Atoi_ok s (by omega) v h w).mono fun e w' ⟨h1, h2⟩ => ⟨_, h1, ?_⟩
    rcases h2 with rfl | ⟨t, rfl⟩
    · exact Up.refl _
    · exact up_bytes (Up.refl _) _ _
  | Lib.NumEnd.syntax =>
    obtain ⟨tp, p, hv⟩ := hR.es
    refine (Tryz.strconv_Atoi_syntax s (by omega) h _ w hv (.inr ⟨tp, p, rfl⟩)).mono fun e w' ⟨N, h1, _, _, h2⟩ => ⟨_, h1, h2⟩
  | .range =>
    obtain ⟨tp, p, hv⟩ := hR.er
    refine (Tryz.strconv_Atoi_range s (by omega) h _ w hv (.inr ⟨tp, p, rfl⟩)).mono fun e w' ⟨N, h1, _, _, h2⟩ => ⟨_, h1, h2⟩
def digL (s : List UInt8) : List UInt8 := Lib.trimLeftS s [120, 114]
theorem s_TrimLeft (s : ByteArray) (w : World) :
    Calls Tryz.prog 91 #[.string s, .string ⟨#[120, 114]⟩] w fun e w' => e = .returned (.string (bst (digL s.toList))) ∧ Up w w' := by
  rw [Lib.toList_data]
  exact (Any.strings_TrimLeft_laid Tryz.lays161 (by kernel_rfl) s ⟨#[120, 114]⟩ w (by decide) (ascii_of_all (by decide))).mono fun e w' ⟨h1, h2⟩ => ⟨h1, h2⟩
theorem digL_len (s : List UInt8) : (digL s).length ≤ s.length := by
  unfold digL Lib.trimLeftS
  exact (List.dropWhile_sublist _).length_le
/-- The words of a line; the lines of a text. -/
def spl (s : ByteArray) : List ByteArray := Lib.splitB ⟨#[32]⟩ 0 (Lib.countB s ⟨#[32]⟩) s
def spa (s : ByteArray) : List ByteArray := Lib.splitB ⟨#[10]⟩ 1 (Lib.countB s ⟨#[10]⟩) s
theorem spl_len (s : ByteArray) : (spl s).length = Lib.countB s ⟨#[32]⟩ + 1 := Lib.splitB_all _ (by decide) 0 _ s rfl
theorem spa_len (s : ByteArray) : (spa s).length = Lib.countB s ⟨#[10]⟩ + 1 := Lib.splitB_all _ (by decide) 1 _ s rfl
theorem strs_new (w : World) (t : TypeId) (l : List ByteArray) (hl : l.length ≤ 9223372036854775807) : StrsAt (w.alloc (.cells (l.map Value.string).toArray t)) (.slice (some ⟨w.heap.size, 0, none⟩) l.length l.length) l := by
  refine SlAt.lay w t _ l.length 1 (strF l) hl fun i j hi hj => ?_
  obtain rfl : j = 0 := by omega
  rw [Nat.mul_one, Nat.add_zero, List.getElem?_toArray, List.getElem?_map, List.getElem?_eq_getElem hi]
  unfold strF
  rw [List.getD_eq_getElem?_getD, List.getElem?_eq_getElem hi]; rfl
theorem s_Split (s : ByteArray) (hs : s.size ≤ 1000000) (w : World) (hR : RdW w) :
    Calls Tryz.prog 64 #[.string s, .string ⟨#[32]⟩] w fun e w' => ∃ a, e = .returned (.slice a (spl s).length (spl s).length) ∧ Up w w' ∧ StrsAt w' (.slice a (spl s).length (spl s).length) (spl s) := by
  obtain ⟨m, hm⟩ := hR.len
  refine (Tryz.strings_Split s ⟨#[32]⟩ m w (by omega) hm (by decide)).mono fun e w' ⟨h1, h2⟩ => ?_
  have hc := Lib.countB_le ⟨#[32]⟩ (by decide) s.size s (Nat.le_refl _)
  refine ⟨some ⟨w.heap.size, 0, none⟩, by rw [spl_len]; exact h1, ?_, ?_⟩
  · rw [h2]; exact (Up.refl w).alloc _
  · rw [h2]; exact strs_new w _ (spl s) (by rw [spl_len]; omega)
theorem s_SplitAfter (s : ByteArray) (hs : s.size ≤ 1000000) (w : World) (hR : RdW w) :
    Calls Tryz.prog 37 #[.string s, .string ⟨#[10]⟩] w fun e w' => ∃ a, e = .returned (.slice a (spa s).length (spa s).length) ∧ Up w w' ∧ StrsAt w' (.slice a (spa s).length (spa s).length) (spa s) := by
  obtain ⟨m, hm⟩ := hR.len
  have hc := Lib.countB_le ⟨#[10]⟩ (by decide) s.size s (Nat.le_refl _)
  have hle := spa_len s
  have HG : Hid (Calls Tryz.prog 62 #[.string s, .string ⟨#[10]⟩, .int .i64 1, .int .i64 (-1)] w fun e w' => ∃ a, e = .returned (.slice a (spa s).length (spa s).length) ∧ Up w w' ∧ StrsAt w' (.slice a (spa s).length (spa s).length) (spa s)) := Lib.hid (by
    have h := Tryz.strings_genSplit s ⟨#[10]⟩ 1 (-1) (Lib.countB s ⟨#[10]⟩ + 1) m w (by omega) hm (by decide) (by decide) (by decide) (by decide) (by rw [if_pos (by decide)]; omega)
    refine h.mono fun e w' ⟨h1, h2⟩ => ?_
    rw [Nat.add_sub_cancel] at h1 h2
    have e1 : Lib.cellsOf (Lib.splitB ⟨#[10]⟩ 1 (Lib.countB s ⟨#[10]⟩) s) (Lib.countB s ⟨#[10]⟩ + 1) = ((spa s).map Value.string).toArray := by
      rw [← hle]; exact Lib.cellsOf_full _
    rw [e1] at h2
    refine ⟨some ⟨w.heap.size, 0, none⟩, ?_, ?_, ?_⟩
    · rw [h1]
      show Ending.returned (.slice _ (spa s).length _) = _
      rw [hle]
    · rw [h2]; exact (Up.refl w).alloc _
    · rw [h2]; exact strs_new w _ (spa s) (by omega))
  clear hm hc hle
  go_enter Tryz.func37, Tryz.ntmps37
  go_wp2_with (go_at_call 62; refine HG.out.mono ?_; rintro e x ⟨a, rfl, hx, hs⟩; have HX := Lib.hid hx; have HSS := Lib.hid hs; clear hx hs)
  go_ret
  exact ⟨_, rfl, HX.out, HSS.out⟩
end Go.Proofs.YtlglfdhiopnglaaGreatDoor
end
