/-
  expr.Copy. Printed by mkDgC5.py.
-/
import Derived.Test.YtpccaifhcmcegaaDgC4
namespace Go.Proofs.Ytpccaifhcmcegaa
set_option linter.unusedSimpArgs false
open Go.ChangeShapes Go.WideShapes Go.ChangeAt Go.RowKit
set_option linter.unusedVariables false
set_option maxRecDepth 100000

set_option maxHeartbeats 8000000 in
theorem ex_Copy (n : Nat) (X : Nat → Prop) (cs : Array Value) (e : Ex) (w : World) (hcs : cs.size = 13) (hX : ∀ b, X b → b < w.heap.size) (hfr : Fr X (fun y => exR n y (fun j => cs.getD j undef) e) w) :
    Calls Try.prog 51 #[.agg cs] w fun r w' => ∃ ds : Array Value, r = .returned (.agg ds) ∧ ds.size = 13 ∧ Up w w' ∧ Fr X (fun y => exR n y (fun j => ds.getD j undef) e) w' := by
  have HU0 := Lib.hid (((Up.refl w).alloc (.cells cs 57)).alloc (.cells #[.int .i64 0, .string ByteArray.empty, .int .i64 0, .int .i64 0, .int .i64 0, .int .i64 0, .int .i64 0, .int .i64 0, .int .i64 0, .int .i64 0, .slice none 0 0, .slice none 0 0, .slice none 0 0] 57))
  have HLD := Lib.hid (run_ex (w := (w.alloc (.cells cs 57)).alloc (.cells #[.int .i64 0, .string ByteArray.empty, .int .i64 0, .int .i64 0, .int .i64 0, .int .i64 0, .int .i64 0, .int .i64 0, .int .i64 0, .int .i64 0, .slice none 0 0, .slice none 0 0, .slice none 0 0] 57)) hcs (((BoxC.new w 57 cs).up ((Up.refl _).alloc (.cells #[.int .i64 0, .string ByteArray.empty, .int .i64 0, .int .i64 0, .int .i64 0, .int .i64 0, .int .i64 0, .int .i64 0, .int .i64 0, .int .i64 0, .slice none 0 0, .slice none 0 0, .slice none 0 0] 57))).range))
  have HZ0 := Lib.hid (BoxC.new2 w (.cells cs 57) 57 #[.int .i64 0, .string ByteArray.empty, .int .i64 0, .int .i64 0, .int .i64 0, .int .i64 0, .int .i64 0, .int .i64 0, .int .i64 0, .int .i64 0, .slice none 0 0, .slice none 0 0, .slice none 0 0])
  have HX := Lib.hid hX
  have HCL := Lib.hid (ex_mapForms n (fun b => X b ∨ (w.heap.size ≤ b ∧ b ≤ w.heap.size + 1)) cs e ((w.alloc (.cells cs 57)).alloc (.cells #[.int .i64 0, .string ByteArray.empty, .int .i64 0, .int .i64 0, .int .i64 0, .int .i64 0, .int .i64 0, .int .i64 0, .int .i64 0, .int .i64 0, .slice none 0 0, .slice none 0 0, .slice none 0 0] 57)) hcs (fun b h => by simp only [World.size_alloc]; rcases h with h | h; have := hX b h; omega; omega) ((hfr.wide HU0.out).less fun b _ h => h.imp id fun h => h.1))
  clear hcs hX hfr
  go_enter Try.func51, Try.ntmps51
  go_wp2_with (first
    | (refine st_load HLD.out (by rfl) ?_)
    | (go_at_call 63; (with_reducible refine HCL.out.mono ?_); rintro e' W2 ⟨ds, rfl, hds, hy, hfr⟩; have HDS := Lib.hid hds; have HU2 := Lib.hid hy; have HF2 := Lib.hid hfr;
        have HFL := Lib.hid (run_fill (P := Try.prog) (k := 13) ex_i W2 (Z := #[.int .i64 0, .string ByteArray.empty, .int .i64 0, .int .i64 0, .int .i64 0, .int .i64 0, .int .i64 0, .int .i64 0, .int .i64 0, .int .i64 0, .slice none 0 0, .slice none 0 0, .slice none 0 0]) (cs := ds) rfl hds (CsAt.one (exR_k n) ⟨hds, hfr.here⟩));
        have HL2 := Lib.hid (run_ex (w := W2.alloc (.cells ds 57)) hds (BoxC.new W2 57 ds).range);
        have HPT := Lib.hid (run_put (P := Try.prog) (k := 13) ex_i ((HZ0.out.up hy).up ((Up.refl W2).alloc (.cells ds 57))) rfl hds (CsAt.one (exR_k n) ⟨hds, hfr.here⟩));
        clear hds hy hfr HLD)
    | (refine st_store HFL.out (by rfl) (by rfl) ?_)
    | (refine st_load HL2.out (by rfl) ?_)
    | (refine st_store HPT.out (by rfl) (by rfl) ?_))
  have HB := Lib.hid (((HZ0.out.up HU2.out).up ((Up.refl W2).alloc (.cells ds 57))).row ds)
  have hkr := setRow_by (W2.alloc (.cells ds 57)) (w.heap.size + 1) ds
  refine bodyPost_ret (v := .agg ds) (results_c1 (by rfl) (by rfl) (run_exV HDS.out HB.out.range)) rfl ⟨ds, rfl, HDS.out, ((HU0.out.trans HU2.out).alloc _).grown' hkr (fun k e => by cases e; exact Nat.le_succ _), ?_⟩
  exact (HF2.out.up ((Up.refl W2).alloc _)).to (Kp.of_by (X := fun b => b = w.heap.size + 1) hkr (fun g e => (Option.some.inj e).symm)) (fun b _ e => .inr (by omega)) (fun _ _ h => .inl h)
end Go.Proofs.Ytpccaifhcmcegaa
