/-
  What the rows' laid variables give; the wrap of a law, the world's shape kept. Printed by mkIsFa.py.
-/
import Derived.Test.YtlglfdhiopnglaaGreatDoorIsEx
import Derived.Test.YtlglfdhiopnglaaGreatDoorPeOi
import Derived.LaidMore
import Derived.MakeChecks
import Derived.OpenShut
import Derived.FnData
import Derived.Lib.LaidTab
import Derived.Lib.LaidU8
import Derived.Shelf.Vars
import Derived.ProofKit
import Derived.Handed
namespace Go.Proofs.YtlglfdhiopnglaaGreatDoor
open Go.ChangeShapes Go.WideShapes Go.ChangeAt Go.RowKit
set_option linter.unusedVariables false
set_option linter.unusedSimpArgs false
set_option maxRecDepth 100000

theorem str_of_trod {H : Type} {enc : TypeId × Value → H} {P : Program} {w : World} {base fuel : Nat} {sp : Nat → Bool} {held : Bool} {t : TypeId} {cs : List Value} {s : List UInt8} {p : List MemPlace} (ht : P.underlying t = some .string)
    (h : DataW.trod enc P w base sp held fuel t cs = some (.lit (.string s), p)) : cs = [.string ⟨s.toArray⟩] := by
  cases fuel with
  | zero => unfold DataW.trod at h; cases h
  | succ fuel =>
    unfold DataW.trod at h
    rw [ht] at h
    match cs, h with
    | [.string x], h =>
      simp only at h
      split at h
      · injection h with h
        injection h with h _
        injection h with h
        injection h with h
        rw [← h]
      · cases h
theorem iface_of_trod {H : Type} {enc : TypeId × Value → H} {P : Program} {w : World} {base fuel : Nat} {sp : Nat → Bool} {held : Bool} {t : TypeId} {ms : Array (String × TypeId)} {cs : List Value} {n : String} {d : DataW H} {p : List MemPlace} (ht : P.underlying t = some (.interface ms))
    (h : DataW.trod enc P w base sp held fuel t cs = some (.iface n d, p)) : ∃ u v, cs = [.iface u v] := by
  cases fuel with
  | zero => unfold DataW.trod at h; cases h
  | succ fuel =>
    unfold DataW.trod at h
    rw [ht] at h
    match cs, h with
    | [.iface u v], _ => exact ⟨u, v, rfl⟩
    | [.nilIface], h => injection h with h; injection h with h _; cases h

theorem laid_rows : ∃ Dl : List (DataW Unit), Rows.laid_brocade_isa_opcodes = .agg Dl ∧ ∀ i, i < 17 → Dl[i]? = some (.agg [.lit (.string (mnS i).data.toList), Lib.tabData .i64 (tabF i)]) := by
  refine ⟨_, rfl, fun i hi => ?_⟩
  rcases (by omega : i = 0 ∨ i = 1 ∨ i = 2 ∨ i = 3 ∨ i = 4 ∨ i = 5 ∨ i = 6 ∨ i = 7 ∨ i = 8 ∨ i = 9 ∨ i = 10 ∨ i = 11 ∨ i = 12 ∨ i = 13 ∨ i = 14 ∨ i = 15 ∨ i = 16) with rfl | rfl | rfl | rfl | rfl | rfl | rfl | rfl | rfl | rfl | rfl | rfl | rfl | rfl | rfl | rfl | rfl <;> rfl

theorem tabs_of {W : World} (h : Lib.VarReads Tryz.prog W "brocade/isa.opcodes" Rows.laid_brocade_isa_opcodes) : ITab W ∧ WTab W := by
  obtain ⟨g', t', cs, fuel, p, hg', ht', hvar, hd⟩ := h
  have e0 : Tryz.prog.globalNamed "brocade/isa.opcodes" = some 0 := by kernel_rfl
  obtain rfl := Option.some.inj (e0.symm.trans hg')
  have e : (Tryz.prog.globals[0]?).map (·.type) = some 68 := by kernel_rfl
  obtain rfl := Option.some.inj (e.symm.trans ht')
  have hcell := fun off => World.var?_cell hg' hvar off
  obtain ⟨Dl, hDl, hrow⟩ := laid_rows
  rw [hDl] at hd
  obtain ⟨xs, m, _, hx, hcl, hlen, hat⟩ := DataW.trod_array Tryz.underlying68 hd
  have hx1 : Dl = xs.map (·.1) := by
    have := congrArg Prod.fst hx
    injection this
  have c6 : Tryz.prog.cellsOf 67 = 6 := by kernel_rfl
  rw [c6] at hat
  have hsz0 : 0 < W.heap.size := by
    have h0 := hcell 0
    have hsz : 0 < cs.size := by
      have h1 : cs.toList.length = 102 := hcl.trans (by kernel_rfl)
      rw [Array.length_toList] at h1
      omega
    rw [Array.getElem?_eq_getElem hsz] at h0
    exact World.block_lt_of_cell? _ _ h0
  refine ⟨⟨hsz0, fun i j hi hj => ?_⟩, ⟨hsz0, fun i hi => ?_⟩⟩
  · have hs := hrow i hi
    have h1 := hat i hi
    rw [hx1, List.getElem?_map] at hs
    obtain ⟨y, hy, hy1⟩ := Option.map_eq_some_iff.1 hs
    rw [hy] at h1
    obtain ⟨xs2, m2, _, hx2, _, hlen2, hg2⟩ := DataW.trod_struct Tryz.underlying67 h1
    have hl2 : xs2.length = 2 := hlen2
    have h3 := (hg2 1 _ rfl).trans (List.getElem?_eq_getElem (by omega : 1 < xs2.length))
    have h4 : (xs2[1]'(by omega)).1 = Lib.tabData .i64 (tabF i) := by
      rw [hx2] at hy1
      have h5 : xs2.map (·.1) = [.lit (.string (mnS i).data.toList), Lib.tabData .i64 (tabF i)] := by
        injection hy1
      have h6 := congrArg (·[1]?) h5
      simp only [List.getElem?_map] at h6
      rw [List.getElem?_eq_getElem (by omega : 1 < xs2.length)] at h6
      simpa using h6
    have h7 := Lib.cells_of_tab (n := 5) (e := 3) (zs := tabF i) (p := (xs2[1]'(by omega)).2) Tryz.underlying65 Tryz.underlying3 (by kernel_rfl) (by kernel_rfl) (h3.trans (by rw [← h4]))
    have h8 : List.take 5 (List.drop 1 (List.take 6 (List.drop (i * 6) cs.toList))) = (tabF i).map fun z => Value.int .i64 z := h7
    have h9 := congrArg (·[j]?) h8
    have hl5 := tabF_len i hi
    simp only [List.getElem?_take, List.getElem?_drop, hj, if_true, List.getElem?_map] at h9
    rw [if_pos (by omega), List.getElem?_eq_getElem (by omega : j < (tabF i).length)] at h9
    rw [hcell, ← Array.getElem?_toList, show i * 6 + 1 + j = i * 6 + (1 + j) by omega, h9, List.getD_eq_getElem?_getD, List.getElem?_eq_getElem (by omega : j < (tabF i).length)]
    rfl
  · have hs := hrow i hi
    have h1 := hat i hi
    rw [hx1, List.getElem?_map] at hs
    obtain ⟨y, hy, hy1⟩ := Option.map_eq_some_iff.1 hs
    rw [hy] at h1
    obtain ⟨xs2, m2, _, hx2, _, hlen2, hg2⟩ := DataW.trod_struct Tryz.underlying67 h1
    have hl2 : xs2.length = 2 := hlen2
    have h3 := (hg2 0 _ rfl).trans (List.getElem?_eq_getElem (by omega : 0 < xs2.length))
    have h4 : (xs2[0]'(by omega)).1 = .lit (.string (mnS i).data.toList) := by
      rw [hx2] at hy1
      have h5 : xs2.map (·.1) = [.lit (.string (mnS i).data.toList), Lib.tabData .i64 (tabF i)] := by
        injection hy1
      have h6 := congrArg (·[0]?) h5
      simp only [List.getElem?_map] at h6
      rw [List.getElem?_eq_getElem (by omega : 0 < xs2.length)] at h6
      simpa using h6
    have h7 := str_of_trod Tryz.underlying9 (h3.trans (by rw [← h4]))
    have h8 : List.take 1 (List.drop 0 (List.take 6 (List.drop (i * 6) cs.toList))) = [.string ⟨(mnS i).data.toList.toArray⟩] := h7
    have h9 := congrArg (·[0]?) h8
    simp only [List.getElem?_take, List.getElem?_drop] at h9
    rw [if_pos (by omega), if_pos (by omega)] at h9
    rw [hcell, ← Array.getElem?_toList]
    have e : i * 6 + (0 + 0) = i * 6 := by omega
    rw [e] at h9
    rw [h9]
    show some (Value.string ⟨(mnS i).data.toList.toArray⟩) = _
    congr 2
theorem ftab_of {W : World} (h : Lib.VarReads Tryz.prog W "internal/strconv.uint64pow10" Rows.laid_internal_strconv_uint64pow10) : FTab W := by
  obtain ⟨g', t', cs, fuel, p, hg', ht', hvar, hd⟩ := h
  have e : ((Tryz.prog.globalNamed "internal/strconv.uint64pow10").bind fun g => (Tryz.prog.globals[g]?).map (·.type)) = some 175 := by kernel_rfl
  rw [hg'] at e
  have e : (Tryz.prog.globals[g']?).map (·.type) = some 175 := e
  obtain rfl := Option.some.inj (e.symm.trans ht')
  have hd2 : DataW.trod (fun _ => ()) Tryz.prog W 0 (fun _ => true) false fuel 175 cs.toList = some (Lib.tabData .u64 Lib.pow10Tab, p) := hd
  unfold FTab Lib.TabIs
  rw [hvar, ← Lib.cells_of_tab (n := 20) (e := 112) (by kernel_rfl) (by kernel_rfl) (by kernel_rfl) (by kernel_rfl) hd2]
theorem err_of {W : World} {n : String} {g : Nat} {s : String} {d : DataW Unit} (h : Lib.VarReads Tryz.prog W n (.iface s d)) (e0 : Tryz.prog.globalNamed n = some g) (e1 : (Tryz.prog.globals[g]?).map (·.type) = some 59) : ∃ tp p, W.cell? ⟨g, 0, none⟩ = some (.iface tp p) := by
  obtain ⟨g', t', cs, fuel, p, hg', ht', hvar, hd⟩ := h
  obtain rfl := Option.some.inj (e0.symm.trans hg')
  obtain rfl := Option.some.inj (e1.symm.trans ht')
  obtain ⟨u, v, hcs⟩ := iface_of_trod Tryz.underlying59 hd
  refine ⟨u, v, ?_⟩
  rw [World.var?_cell hg' hvar 0, ← Array.getElem?_toList, hcs]; rfl
theorem open_Typs {H : Type} {enc : TypeId × Value → H} {w : World} {base : Nat} {spare : Nat → Bool} {held : Bool} {r : Reach} {b0 : Nat} {v : Value} {d : DataW H} {p : List MemPlace} (hv : Value.okWide Tryz.prog w r b0 23 v) (h : DataW.Trod enc Tryz.prog w base spare held 23 v d p) : ∃ l, TypAt w v l := by
  obtain ⟨a0, len, cap, rfl⟩ := okWide_slice Tryz.underlying23 hv
  obtain ⟨fuel, hf⟩ := h
  obtain ⟨v, l, hcs, hl⟩ := trod_Typs hf
  simp only [Value.cells, List.cons.injEq, and_true] at hcs
  subst hcs
  exact ⟨l, hl⟩
/-- All that the walks ask of the world. -/
theorem facts_of {W : World} (h : laidMetH Tryz.prog Rows.isaValidateRow.laid W) (hsh : W.ShapedOpen Tryz.prog) : RdW W ∧ FTab W ∧ ITab W ∧ WTab W := by
  rw [Go.MakeChecks.laidMetH_plain _ _ _ (by kernel_rfl)] at h
  have h1 := Lib.laidMet.reads h (n := "strconv.ErrRange") (d := Rows.laid_strconv_ErrRange) (by unfold Rows.isaValidateRow; simp)
  have h2 := Lib.laidMet.reads h (n := "strconv.ErrSyntax") (d := Rows.laid_strconv_ErrSyntax) (by unfold Rows.isaValidateRow; simp)
  have h3 := Lib.laidMet.reads h (n := "brocade/isa.opcodes") (d := Rows.laid_brocade_isa_opcodes) (by unfold Rows.isaValidateRow; simp)
  have h4 := Lib.laidMet.reads h (n := "internal/strconv.uint64pow10") (d := Rows.laid_internal_strconv_uint64pow10) (by unfold Rows.isaValidateRow; simp)
  obtain ⟨hI, hW⟩ := tabs_of h3
  refine ⟨⟨?_, ?_, ?_⟩, ftab_of h4, hI, hW⟩
  · exact Go.Proofs.cell_of_shapedOpen_int (zero := #[.int .i64 0]) (t := 3) hsh (of_decide_eq_true (by kernel_rfl)) (by kernel_rfl) rfl (by kernel_rfl) (by kernel_rfl) Tryz.underlying3
  · exact err_of h2 (by kernel_rfl) (by kernel_rfl)
  · exact err_of h1 (by kernel_rfl) (by kernel_rfl)

/-- The wrap of a law that has laid variables: the contract is given the world's shape as well. -/
theorem wrap_shaped {H : Type} {enc : TypeId × Value → H} {a : Assume} {C : Checked} {os : Os} {f : FuncId} {fn : Func} {s : ChangeSpec} {conds : List PathCond} {apart fresh handsOn again : Bool} {X : World → Array Value → Prop}
    (hX : ∀ (w w' : World) (args : Array Value), w.heap = w'.heap → X w args → X w' args)
    (own : ownKnob C.prog.godebug = none) (started : os.Started) (noInit : C.prog.inits.idxOf? f = none) (hfn : C.prog.funcs[f]? = some fn)
    (witness : ∃ (w : World) (tape : Tape) (i : Input), w.os = os ∧ (w.forCall tape i).Shaped C.prog ∧ i.vars = [] ∧ Input.okWide C.prog (w.forCall tape i) .any w.heap.size f i ∧
      ((s.pre enc C.prog fn conds apart (w.forCall tape i).memory i.args ∧ X (w.forCall tape i).memory i.args) ∧ sizedMet enc C.prog fn (OpenSpec.ofChange s) apart (w.forCall tape i).memory i.args) ∧ a.holds C.prog (lone (Frame.enter C.prog f i.args .normal) [] (w.forCall tape i)))
    (contract : ∀ (W : World) (base : Nat) (args : Array Value) (ds gs : List (DataW H)) (before : List MemPlace),
      (∀ (j : Nat) t v, fn.params[j]? = some t → args[j]? = some v → Value.okWide C.prog W .any base t v) →
      DataW.Whole enc C.prog fn.params.toList s.vars apart W args.toList ds gs before → X W args → W.ShapedOpen C.prog →
      Calls C.prog f args W fun e W' => ∃ v, e = .returned v ∧ s.post enc C.prog fn apart fresh handsOn again W args v W') :
    ReturnsInHanded a C os f .any (fun w args => (s.pre enc C.prog fn conds apart w args ∧ X w args) ∧ sizedMet enc C.prog fn (OpenSpec.ofChange s) apart w args) (s.post enc C.prog fn apart fresh handsOn again) := by
  refine returnsInHanded_of_calls own started noInit witness fun w tape i _ hsh _ hok hpre _ => ?_
  obtain ⟨_, _, _, g, hg, _, _, _, _, hval⟩ := hok
  obtain rfl := Option.some.inj (hg.symm.trans hfn)
  obtain ⟨⟨⟨ds, gs, before, hw, _⟩, hx⟩, _⟩ := hpre
  exact (contract (w.forCall tape i) w.heap.size i.args ds gs before hval (DataW.Whole.of_heap (w' := w.forCall tape i) (by rfl) hw) (hX _ _ _ (by rfl) hx) hsh).mono fun e W' ⟨v, he, hp⟩ => by
    subst he
    exact ChangeSpec.post_blind hp
end Go.Proofs.YtlglfdhiopnglaaGreatDoor
