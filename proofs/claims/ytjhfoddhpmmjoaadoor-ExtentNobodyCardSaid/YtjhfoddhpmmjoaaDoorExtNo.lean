/-
  extent: a field that no call made tells as much.
-/
import Derived.Test.YtjhfoddhpmmjoaaDoorExtDrop
namespace Go.Proofs.YtjhfoddhpmmjoaaDoor
set_option maxRecDepth 100000
open Go.RowKit
set_option maxRecDepth 100000
theorem echarge_no (w : World) (v : Value) (t : Int) (h : NoField w v) :
    Calls Tryd.prog 16 #[v, .int .i64 t] w fun e w' => e = .returned (.int .i64 0) ∧ w = w' := by
  have cm := Lib.hid (eat_none w v t h)
  replace h := Lib.hid h
  go_enter Tryd.func16, Tryd.ntmps16
  go_wp2_with fail
  refine cm.out.mono ?_
  rintro e _ ⟨rfl, rfl⟩
  go_wp2_with fail
  go_ret
  exact ⟨rfl, rfl⟩
theorem elimits_no (w : World) (v : Value) (t : Int) (h : NoField w v) :
    Calls Tryd.prog 19 #[v, .int .i64 t] w fun e w' => e = .returned (.tuple #[.int .i64 0, .int .i64 0, .bool false]) ∧ w = w' := by
  have cm := Lib.hid (eat_none w v t h)
  replace h := Lib.hid h
  go_enter Tryd.func19, Tryd.ntmps19
  go_wp2_with fail
  refine cm.out.mono ?_
  rintro e _ ⟨rfl, rfl⟩
  go_wp2_with fail
  go_ret3
  exact ⟨rfl, rfl⟩
theorem etimes_no (w : World) (v : Value) (x : Int) (h : NoField w v) :
    Calls Tryd.prog 18 #[v, .int .u32 x] w fun e w' => e = .returned (.int .i64 0) ∧ w = w' := by
  have cm := Lib.hid (emade_no w v h)
  replace h := Lib.hid h
  go_enter Tryd.func18, Tryd.ntmps18
  go_wp2_with fail
  refine cm.out.mono ?_
  rintro e _ ⟨rfl, rfl⟩
  go_wp2_with fail
  go_ret
  exact ⟨rfl, rfl⟩
theorem eslack_no (w : World) (v : Value) (h : NoField w v) :
    Calls Tryd.prog 20 #[v] w fun e w' => e = .returned (.int .i64 0) ∧ w = w' := by
  have cm := Lib.hid (emade_no w v h)
  replace h := Lib.hid h
  go_enter Tryd.func20, Tryd.ntmps20
  go_wp2_with fail
  refine cm.out.mono ?_
  rintro e _ ⟨rfl, rfl⟩
  go_wp2_with fail
  go_ret
  exact ⟨rfl, rfl⟩
theorem emay_no (w : World) (v : Value) (t r q : Int) (h : NoField w v) :
    Calls Tryd.prog 42 #[v, .int .i64 t, .int .i64 r, .int .i64 q] w fun e w' => e = .returned (.int .i64 6) ∧ w = w' := by
  have cm := Lib.hid (emade_no w v h)
  replace h := Lib.hid h
  go_enter Tryd.func42, Tryd.ntmps42
  go_wp2_with fail
  refine cm.out.mono ?_
  rintro e _ ⟨rfl, rfl⟩
  go_wp2_with fail
  go_ret
  exact ⟨rfl, rfl⟩
theorem ethere_no (w : World) (v : Value) (x : Int) (h : NoField w v) :
    Calls Tryd.prog 43 #[v, .int .u32 x] w fun e w' => e = .returned (.int .i64 6) ∧ w = w' := by
  have cm := Lib.hid (emade_no w v h)
  replace h := Lib.hid h
  go_enter Tryd.func43, Tryd.ntmps43
  go_wp2_with fail
  refine cm.out.mono ?_
  rintro e _ ⟨rfl, rfl⟩
  go_wp2_with fail
  go_ret
  exact ⟨rfl, rfl⟩
theorem eadmit_no (w : World) (v : Value) (t r q : Int) (h : NoField w v) :
    Calls Tryd.prog 13 #[v, .int .i64 t, .int .i64 r, .int .i64 q] w fun e w' => e = .returned (.int .i64 6) ∧ w = w' := by
  have cm := Lib.hid (emay_no w v t r q h)
  replace h := Lib.hid h
  go_enter Tryd.func13, Tryd.ntmps13
  go_wp2_with fail
  refine cm.out.mono ?_
  rintro e _ ⟨rfl, rfl⟩
  go_wp2_with fail
  go_ret
  exact ⟨rfl, rfl⟩
theorem eresize_no (w : World) (v : Value) (t r q : Int) (h : NoField w v) :
    Calls Tryd.prog 28 #[v, .int .i64 t, .int .i64 r, .int .i64 q] w fun e w' => e = .returned (.int .i64 6) ∧ w = w' := by
  have cm := Lib.hid (emay_no w v t r q h)
  replace h := Lib.hid h
  go_enter Tryd.func28, Tryd.ntmps28
  go_wp2_with fail
  refine cm.out.mono ?_
  rintro e _ ⟨rfl, rfl⟩
  go_wp2_with fail
  go_ret
  exact ⟨rfl, rfl⟩
theorem eremove_no (w : World) (v : Value) (t : Int) (h : NoField w v) :
    Calls Tryd.prog 29 #[v, .int .i64 t] w fun e w' => e = .returned (.int .i64 6) ∧ w = w' := by
  have ca := Lib.hid (eat_none w v t h)
  have cm := Lib.hid (emade_no w v h)
  replace h := Lib.hid h
  go_enter Tryd.func29, Tryd.ntmps29
  go_wp2_with fail
  refine ca.out.mono ?_
  rintro e _ ⟨rfl, rfl⟩
  go_wp2_with fail
  refine cm.out.mono ?_
  rintro e _ ⟨rfl, rfl⟩
  go_wp2_with fail
  go_ret
  exact ⟨rfl, rfl⟩
theorem etake_none (w : World) (v : Value) (t : Int) (h : NoField w v) :
    Calls Tryd.prog 21 #[v, .int .i64 t] w fun e w' => e = .returned (.tuple #[.int .u32 0, .int .i64 6]) ∧ w = w' := by
  have ca := Lib.hid (eat_none w v t h)
  have cm := Lib.hid (emade_no w v h)
  replace h := Lib.hid h
  go_enter Tryd.func21, Tryd.ntmps21
  go_wp2_with fail
  refine ca.out.mono ?_
  rintro e _ ⟨rfl, rfl⟩
  go_wp2_with fail
  refine cm.out.mono ?_
  rintro e _ ⟨rfl, rfl⟩
  go_wp2_with fail
  go_ret2
  exact ⟨rfl, rfl⟩
theorem eclaim_no (w : World) (v : Value) (t x : Int) (h : NoField w v) :
    Calls Tryd.prog 30 #[v, .int .i64 t, .int .u32 x] w fun e w' => e = .returned (.int .i64 6) ∧ w = w' := by
  have cm := Lib.hid (ethere_no w v x h)
  replace h := Lib.hid h
  go_enter Tryd.func30, Tryd.ntmps30
  go_wp2_with fail
  refine cm.out.mono ?_
  rintro e _ ⟨rfl, rfl⟩
  go_wp2_with fail
  go_ret
  exact ⟨rfl, rfl⟩
theorem ehold_no (w : World) (v : Value) (x : Int) (h : NoField w v) :
    Calls Tryd.prog 31 #[v, .int .u32 x] w fun e w' => e = .returned (.int .i64 6) ∧ w = w' := by
  have cm := Lib.hid (ethere_no w v x h)
  replace h := Lib.hid h
  go_enter Tryd.func31, Tryd.ntmps31
  go_wp2_with fail
  refine cm.out.mono ?_
  rintro e _ ⟨rfl, rfl⟩
  go_wp2_with fail
  go_ret
  exact ⟨rfl, rfl⟩
theorem edrop_no (w : World) (v : Value) (t x : Int) (h : NoField w v) :
    Calls Tryd.prog 15 #[v, .int .i64 t, .int .u32 x] w fun e w' => e = .returned (.int .i64 6) ∧ w = w' := by
  have cm := Lib.hid (ethere_no w v x h)
  replace h := Lib.hid h
  go_enter Tryd.func15, Tryd.ntmps15
  go_wp2_with fail
  refine cm.out.mono ?_
  rintro e _ ⟨rfl, rfl⟩
  go_wp2_with fail
  go_ret
  exact ⟨rfl, rfl⟩
end Go.Proofs.YtjhfoddhpmmjoaaDoor
