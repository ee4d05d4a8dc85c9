/-
  aes: columns. Conditions: the cipher lies in a block of its own; each factor is one whose products lie in the cipher.
-/
import Derived.Test.YtecmagenlbnchaaQXtsDouble
import Derived.Deep.RegionWith
namespace Go.Proofs.Ytecmagenlbnchaa
set_option maxRecDepth 100000
open Go.RowKit

theorem i64_low3 (n : Nat) (h : n < 32) : bits .and .i64 (n : Int) 3 = ((n % 4 : Nat) : Int) := by
  have : ∀ j : Nat, j < 32 → bits .and .i64 (j : Int) 3 = ((j % 4 : Nat) : Int) := by decide +kernel
  exact this n h
theorem i64_hi3 (n : Nat) (h : n < 16) : bits .andNot .i64 (n : Int) 3 = ((4 * (n / 4) : Nat) : Int) := by
  have : ∀ j : Nat, j < 16 → bits .andNot .i64 (j : Int) 3 = ((4 * (j / 4) : Nat) : Int) := by decide +kernel
  exact this n h
theorem i64_or3 (q r : Nat) (h : q < 4) (hr : r < 4) : bits .or .i64 ((4 * q : Nat) : Int) (r : Int) = ((4 * q + r : Nat) : Int) := by
  have : ∀ q : Nat, q < 4 → ∀ r : Nat, r < 4 → bits .or .i64 ((4 * q : Nat) : Int) (r : Int) = ((4 * q + r : Nat) : Int) := by decide +kernel
  exact this q h r hr

set_option maxRecDepth 100000 in
theorem colAt_any {w : World} {g : Nat} (x : Nat → Nat) (hr : RowB w g 91 (tab x)) (i k : Nat) (hi : i < 16) (hk : k < 4) :
    Calls Try.prog 94 #[.int .i64 i, .int .i64 k, .pointer (some ⟨g, 0, none⟩)] w fun e w' => e = .returned (.int .u8 (x (4 * (i / 4) + (i + k) % 4))) ∧ w = w' := by
  have f1 := i64_hi3 i hi
  have f2 := i64_low3 (i + k) (by omega)
  have f3 := i64_or3 (i / 4) ((i + k) % 4) (by omega) (by omega)
  have f4 : IntKind.i64.wrap ((i : Int) + (k : Int)) = ((i + k : Nat) : Int) := by rw [IntWalk.i64_in _ (by omega)]; omega
  have hq : 4 * (i / 4) + (i + k) % 4 < 16 := by omega
  have cX := hr.cell (tab_get x hq)
  generalize 4 * (i / 4) + (i + k) % 4 = q at *
  generalize 4 * (i / 4) = d at *
  generalize (i + k) % 4 = m at *
  generalize i + k = s at *
  replace hr := Lib.hid hr
  go_enter Try.func94, Try.ntmps94
  go_wp2_with fail
  go_ret
  exact ⟨rfl, rfl⟩

theorem plain8 : Try.prog.plainKey 5 = true := by kernel_rfl
theorem size8u : (Try.prog.info? 5).map (·.size) = some 1 := by kernel_rfl

/-- A byte of a column, after k products. -/
def colTo (fs : List Nat) (x : Nat → Nat) (i : Nat) : Nat → Nat
  | 0 => 0
  | k + 1 => colTo fs x i k ^^^ gmul (byt fs k) (x (4 * (i / 4) + (i + k) % 4))
/-- The factors whose products lie in a cipher. -/
def Factors (fs : List Nat) : Prop := fs.length = 4 ∧ ∀ k, k < 4 → byt fs k ∈ [1, 2, 3, 9, 11, 13, 14]
theorem Factors.lt {fs : List Nat} (h : Factors fs) {k : Nat} (hk : k < 4) : byt fs k < 15 := by
  have := h.2 k hk
  simp at this
  omega
theorem colTo_lt {fs : List Nat} (h : Factors fs) (x : Nat → Nat) (i : Nat) : ∀ k, k ≤ 4 → colTo fs x i k < 256
  | 0, _ => show 0 < 256 by decide
  | k + 1, hk => xor_lt8 (colTo_lt h x i k (by omega)) (gmul_lt _ (Nat.lt_of_lt_of_le (h.lt (show k < 4 by omega)) (by decide)))
/-- What lies in the block while its columns are made. -/
def mid (fs : List Nat) (x : Nat → Nat) (i k : Nat) : Nat → Nat := fun j => if j < i then colTo fs x j 4 else if j = i then colTo fs x i k else 0
theorem mid_set (fs : List Nat) (x : Nat → Nat) (i k : Nat) : (tab (mid fs x i k)).set i (colTo fs x i (k + 1)) = tab (mid fs x i (k + 1)) := by
  rw [tab_set]
  apply tab_ext
  intro j _
  unfold mid
  by_cases h1 : j = i
  · subst h1; simp
  · by_cases h2 : j < i <;> simp [h1, h2]
theorem mid_next (fs : List Nat) (x : Nat → Nat) (i : Nat) : tab (mid fs x i 4) = tab (mid fs x (i + 1) 0) := by
  apply tab_ext
  intro j _
  unfold mid
  by_cases h1 : j = i
  · subst h1; simp
  · by_cases h2 : j < i
    · simp [h2, show j < i + 1 by omega]
    · by_cases h3 : j = i + 1
      · rw [if_neg h2, if_neg h1, if_neg (by omega), if_pos h3]; rfl
      · simp [h1, h2, h3, show ¬ j < i + 1 by omega]
theorem mid_none (fs : List Nat) (x : Nat → Nat) : tab (mid fs x 0 0) = List.replicate 16 0 := by
  apply List.ext_getElem?
  intro i
  by_cases hi : i < 16
  · rw [tab_get _ hi]
    unfold mid
    by_cases h : i = 0
    · subst h; simp [colTo]
    · rw [if_neg (Nat.not_lt_zero _), if_neg h, List.getElem?_replicate, if_pos hi]
  · rw [List.getElem?_eq_none (by rw [length_tab]; omega), List.getElem?_eq_none (by simp; omega)]
theorem mid_all (fs : List Nat) (x : Nat → Nat) (k : Nat) : tab (mid fs x 16 k) = tab (fun j => colTo fs x j 4) := by
  apply tab_ext
  intro j hj
  unfold mid
  rw [if_pos hj]
theorem mid_at (fs : List Nat) (x : Nat → Nat) (i k : Nat) : mid fs x i k i = colTo fs x i k := by unfold mid; simp

/-- What the columns' walk keeps. -/
structure ColSt (w wr : World) (x : Nat → Nat) (fs l : List Nat) : Prop where
  x : RowB wr w.heap.size 91 (tab x)
  f : RowB wr (w.heap.size + 1) 115 fs
  z : RowB wr (w.heap.size + 2) 91 (List.replicate 16 0)
  o : RowB wr (w.heap.size + 3) 91 l
  low : Below w.heap.size w wr
theorem ColSt.drew {w wr : World} {x : Nat → Nat} {fs l : List Nat} (h : ColSt w wr x fs l) : ColSt w wr.drew x fs l := ⟨h.x, h.f, h.z, h.o, h.low.drew⟩
theorem ColSt.set {w wr : World} {x : Nat → Nat} {fs l : List Nat} (h : ColSt w wr x fs l) (i v : Nat) : ColSt w (wr.setCell ⟨w.heap.size + 3, i, none⟩ (.int .u8 (v : Int))) x fs (l.set i v) :=
  ⟨h.x.other (heap_setCell_other _ _ _ _ (show w.heap.size ≠ w.heap.size + 3 by omega)), h.f.other (heap_setCell_other _ _ _ _ (show w.heap.size + 1 ≠ w.heap.size + 3 by omega)),
    h.z.other (heap_setCell_other _ _ _ _ (show w.heap.size + 2 ≠ w.heap.size + 3 by omega)), h.o.set i v, h.low.setCell (p := ⟨w.heap.size + 3, i, none⟩) (by simp) _⟩

set_option maxRecDepth 100000 in
theorem cols_core {w : World} {b : Nat} {W : Nat → Nat} (h : CipherAt w b W) (x : Nat → Nat) (hx : Bytes16 x) (fs : List Nat) (hf : Factors fs) :
    Calls Try.prog 81 #[.pointer (some ⟨b, 0, none⟩), .agg (u8s (tab x)), .agg (u8s fs)] w fun e w' => e = .returned (.agg (u8s (tab (fun j => colTo fs x j 4)))) ∧ Below w.heap.size w w' := by
  replace h := Lib.hid h
  replace hx := Lib.hid hx
  replace hf := Lib.hid hf
  go_enter Try.func81, Try.ntmps81
  go_wp2_with fail
  go_loopw [13] (fun i wr => ∃ k : Nat, k ≤ 16 ∧ i = .int .i64 k ∧ ColSt w wr x fs (tab (mid fs x k 0))) (fun i _ => 16 - (intOf i).toNat)
  case atStart =>
    refine ⟨0, Nat.zero_le _, rfl, ?_⟩
    have s1 : (w.alloc (.cells (u8s (tab x)) 91)).heap.size = w.heap.size + 1 := by simp
    have s2 : ((w.alloc (.cells (u8s (tab x)) 91)).alloc (.cells (u8s fs) 115)).heap.size = w.heap.size + 2 := by simp
    have s3 : (((w.alloc (.cells (u8s (tab x)) 91)).alloc (.cells (u8s fs) 115)).alloc (.cells (u8s (List.replicate 16 0)) 91)).heap.size = w.heap.size + 3 := by simp
    have r0 : RowB (w.alloc (.cells (u8s (tab x)) 91)) w.heap.size 91 (tab x) := heap_alloc_new _ _
    have r1 : RowB ((w.alloc (.cells (u8s (tab x)) 91)).alloc (.cells (u8s fs) 115)) (w.heap.size + 1) 115 fs := by rw [← s1]; exact heap_alloc_new _ _
    have r2 : RowB (((w.alloc (.cells (u8s (tab x)) 91)).alloc (.cells (u8s fs) 115)).alloc (.cells (u8s (List.replicate 16 0)) 91)) (w.heap.size + 2) 91 (List.replicate 16 0) := by rw [← s2]; exact heap_alloc_new _ _
    have r3 : RowB ((((w.alloc (.cells (u8s (tab x)) 91)).alloc (.cells (u8s fs) 115)).alloc (.cells (u8s (List.replicate 16 0)) 91)).alloc (.cells (u8s (List.replicate 16 0)) 91)) (w.heap.size + 3) 91 (List.replicate 16 0) := by rw [← s3]; exact heap_alloc_new _ _
    rw [mid_none]
    exact ⟨((r0.alloc _).alloc _).alloc _, (r1.alloc _).alloc _, r2.alloc _, r3, ((((Below.refl _ _).alloc (Nat.le_refl _) _).alloc (by simp) _).alloc (by simp; omega) _).alloc (by simp; omega) _⟩
  case round =>
    obtain ⟨i, hi16, rfl, hS⟩ := hrel
    by_cases hi : i < 16
    · have hF := hS.f
      have l4 : (Try.prog.info? 115).map (·.size) = some (u8s fs).size := by rw [show (u8s fs).size = 4 by simp [u8s, hf.out.1]]; rfl
      replace hS := Lib.hid hS
      go_wp2_with (refine wpList_load_b (by rfl) 115 (.tmp 5) rfl (w.heap.size + 1) rfl 115 fs hF _ Try.underlying115 rfl l4 ?_)
      replace hF := Lib.hid hF
      replace l4 := Lib.hid l4
      go_loopw [17] (fun kv wr => ∃ k : Nat, k ≤ 4 ∧ kv = .int .i64 k ∧ ColSt w wr x fs (tab (mid fs x i k))) (fun kv _ => 4 - (intOf kv).toNat)
      case atStart => exact ⟨0, Nat.zero_le _, rfl, hS.out⟩
      case round =>
        obtain ⟨k, hk4, rfl, hT⟩ := hrel
        by_cases hk : k < 4
        · have hget : (u8s fs)[k]? = some (.int .u8 (byt fs k : Int)) := by simp [u8s, byt, List.getD, hf.out.1, hk]
          have hidx := fun y => run_index_row (P := Try.prog) y 115 5 4 (u8s fs) .i64 k (.int .u8 (byt fs k : Int)) Try.underlying115 plain8 size8u hk hget
          clear hget
          have hC := h.out.below hT.low (Nat.le_refl _)
          have hm := hf.out.2 k hk
          have l15 := hf.out.lt hk
          have lx := hx.out (4 * (i / 4) + (i + k) % 4) (by omega)
          have cT := (hC.mul _ hm _ lx).2
          have lT := (hC.mul _ hm _ lx).1
          have lU := colTo_lt hf.out x i k (by omega)
          have cO := hT.o.cell (tab_get (mid fs x i k) hi)
          rw [mid_at] at cO
          have fr := hT.o.frozen i
          have ca := Lib.hid (colAt_any x hT.x.drew i k hi hk)
          have nT := hT.set i (colTo fs x i (k + 1))
          rw [mid_set] at nT
          have ev := u8_xor_nat _ _ lU lT
          have ez : colTo fs x i k ^^^ gmul (byt fs k) (x (4 * (i / 4) + (i + k) % 4)) = colTo fs x i (k + 1) := rfl
          rw [ez] at ev
          have ea : 753 + 256 * byt fs k + x (4 * (i / 4) + (i + k) % 4) = 753 + byt fs k * 256 + x (4 * (i / 4) + (i + k) % 4) := by omega
          rw [ea] at cT
          generalize gmul (byt fs k) (x (4 * (i / 4) + (i + k) % 4)) = t at *
          generalize x (4 * (i / 4) + (i + k) % 4) = v at *
          generalize byt fs k = f at *
          generalize colTo fs x i (k + 1) = y at *
          generalize colTo fs x i k = u at *
          have lf : (f : Int) < 15 := by omega
          have lv : (v : Int) < 256 := by omega
          replace hT := Lib.hid hT
          replace hC := Lib.hid hC
          replace hm := Lib.hid hm
          replace lT := Lib.hid lT
          replace lU := Lib.hid lU
          replace nT := Lib.hid nT
          replace ez := Lib.hid ez
          replace ea := Lib.hid ea
          go_wp2_with fail
          have cS : (wr.setCell ⟨w.heap.size + 3, i, none⟩ (.int .u8 (y : Int))).drew.cell? ⟨b, 753 + f * 256 + v, none⟩ = some (.int .u8 (t : Int)) := by
            rw [show (wr.setCell ⟨w.heap.size + 3, i, none⟩ (.int .u8 (y : Int))).drew.cell? ⟨b, 753 + f * 256 + v, none⟩ = (wr.setCell ⟨w.heap.size + 3, i, none⟩ (.int .u8 (y : Int))).cell? ⟨b, 753 + f * 256 + v, none⟩ from rfl, World.cell?_setCell_far _ _ _ _ (show w.heap.size + 3 ≠ b by have := h.out.lt; omega)]
            exact cT
          replace cS := Lib.hid cS
          refine wp_region_held_drew (S := (fun w' => w'.cell? ⟨b, 753 + f * 256 + v, none⟩ = some (Value.int .u8 (t : Int)))) (by kernel_rfl) (cT) (fun hHeld => ?_)
          refine held_take (i := 0) (v := ?_) rfl (by kernel_rfl) (by kernel_rfl) (by kernel_rfl) (fun _ _ _ h => h) (Or.inl ⟨by rfl, ?_⟩) (by assumption) ?_
          rotate_left
          · intro w hSw; (try dsimp only at hSw); go_simp; try with_reducible rfl
          try simp only [Act.put, List.setIfInBounds_toArray, List.set_cons_zero, List.set_cons_succ]
          refine held_take (i := 1) (v := ?_) rfl (by kernel_rfl) (by kernel_rfl) (by kernel_rfl) (fun _ _ _ h => h) (Or.inl ⟨by rfl, ?_⟩) (by assumption) ?_
          rotate_left
          · intro w hSw; (try dsimp only at hSw); go_simp; try with_reducible rfl
          try simp only [Act.put, List.setIfInBounds_toArray, List.set_cons_zero, List.set_cons_succ]
          refine held_take (i := 3) (v := ?_) rfl (by kernel_rfl) (by kernel_rfl) (by kernel_rfl) (fun _ _ _ h => h) (Or.inl ⟨by rfl, ?_⟩) (by assumption) ?_
          rotate_left
          · intro w hSw; (try dsimp only at hSw); go_simp; try with_reducible rfl
          try simp only [Act.put, List.setIfInBounds_toArray, List.set_cons_zero, List.set_cons_succ]
          refine held_take (i := 4) (v := ?_) rfl (by kernel_rfl) (by kernel_rfl) (by kernel_rfl) (fun _ _ _ h => h) (Or.inl ⟨by rfl, ?_⟩) (by assumption) ?_
          rotate_left
          · intro w hSw; (try dsimp only at hSw); go_simp; try with_reducible rfl
          try simp only [Act.put, List.setIfInBounds_toArray, List.set_cons_zero, List.set_cons_succ]
          refine held_take (i := 5) (v := ?_) rfl (by kernel_rfl) (by kernel_rfl) (by kernel_rfl) (fun _ _ _ h => h) (Or.inl ⟨by rfl, ?_⟩) (by assumption) ?_
          rotate_left
          · intro w hSw; (try dsimp only at hSw); go_simp; try with_reducible rfl
          try simp only [Act.put, List.setIfInBounds_toArray, List.set_cons_zero, List.set_cons_succ]
          refine held_take (i := 6) (v := ?_) rfl (by kernel_rfl) (by kernel_rfl) (by kernel_rfl) (fun _ _ _ h => h) (Or.inl ⟨by rfl, ?_⟩) (by assumption) ?_
          rotate_left
          · intro w hSw; (try dsimp only at hSw); go_simp; try with_reducible rfl
          try simp only [Act.put, List.setIfInBounds_toArray, List.set_cons_zero, List.set_cons_succ]
          refine held_take (i := 7) (v := ?_) rfl (by kernel_rfl) (by kernel_rfl) (by kernel_rfl) (fun _ _ _ h => h) (Or.inl ⟨by rfl, ?_⟩) (by assumption) ?_
          rotate_left
          · intro w hSw; (try dsimp only at hSw); go_simp; try with_reducible rfl
          try simp only [Act.put, List.setIfInBounds_toArray, List.set_cons_zero, List.set_cons_succ]
          refine held_take (i := 9) (v := ?_) rfl (by kernel_rfl) (by kernel_rfl) (by kernel_rfl) (fun _ _ _ h => h) (Or.inl ⟨by rfl, ?_⟩) (by assumption) ?_
          rotate_left
          · intro w hSw; (try dsimp only at hSw); go_simp; try with_reducible rfl
          try simp only [Act.put, List.setIfInBounds_toArray, List.set_cons_zero, List.set_cons_succ]
          refine held_take (i := 10) (v := ?_) rfl (by kernel_rfl) (by kernel_rfl) (by kernel_rfl) (fun _ _ _ h => h) (Or.inl ⟨by rfl, ?_⟩) (by assumption) ?_
          rotate_left
          · intro w hSw; (try dsimp only at hSw); go_simp; try with_reducible rfl
          try simp only [Act.put, List.setIfInBounds_toArray, List.set_cons_zero, List.set_cons_succ]
          refine held_take (i := 11) (v := ?_) rfl (by kernel_rfl) (by kernel_rfl) (by kernel_rfl) (fun _ _ _ h => h) (Or.inl ⟨by rfl, ?_⟩) (by assumption) ?_
          rotate_left
          · intro w hSw; (try dsimp only at hSw); go_simp; try with_reducible rfl
          try simp only [Act.put, List.setIfInBounds_toArray, List.set_cons_zero, List.set_cons_succ]
          refine held_ready2 (i := 2) (j := 8) rfl rfl (by kernel_rfl) (fun K hK => ?_) (fun K hK => ?_)
          · go_simp
            refine hK.out _ _ (cT) (fun hHeldN => ?_)
            clear hHeld hK K
            have hHeld := hHeldN
            clear hHeldN
            try simp only [Act.put, List.setIfInBounds_toArray, List.set_cons_zero, List.set_cons_succ]
            refine held_ready (i := 8) rfl (by kernel_rfl) (fun K hK => ?_)
            go_simp
            refine ca.out.mono ?_
            rintro e w3 ⟨rfl, rfl⟩
            refine hK.out _ _ (cT) (fun hHeldN => ?_)
            clear hHeld hK K
            have hHeld := hHeldN
            clear hHeldN
            try simp only [Act.put, List.setIfInBounds_toArray, List.set_cons_zero, List.set_cons_succ]
            refine held_take (i := 12) (v := ?_) rfl (by kernel_rfl) (by kernel_rfl) (by kernel_rfl) (fun _ _ _ h => h) (Or.inl ⟨by rfl, ?_⟩) (by assumption) ?_
            rotate_left
            · intro w hSw; (try dsimp only at hSw); go_simp; try with_reducible rfl
            try simp only [Act.put, List.setIfInBounds_toArray, List.set_cons_zero, List.set_cons_succ]
            refine held_take (i := 13) (v := ?_) rfl (by kernel_rfl) (by kernel_rfl) (by kernel_rfl) (fun _ _ _ h => h) (Or.inl ⟨by rfl, ?_⟩) (by assumption) ?_
            rotate_left
            · intro w hSw; (try dsimp only at hSw); go_simp; try with_reducible rfl
            try simp only [Act.put, List.setIfInBounds_toArray, List.set_cons_zero, List.set_cons_succ]
            refine held_take (i := 14) (v := ?_) rfl (by kernel_rfl) (by kernel_rfl) (by kernel_rfl) (fun _ _ _ h => h) (Or.inl ⟨by rfl, ?_⟩) (by assumption) ?_
            rotate_left
            · intro w hSw; (try dsimp only at hSw); go_simp; try with_reducible rfl
            try simp only [Act.put, List.setIfInBounds_toArray, List.set_cons_zero, List.set_cons_succ]
            refine held_take (i := 15) (v := ?_) rfl (by kernel_rfl) (by kernel_rfl) (by kernel_rfl) (fun _ _ _ h => h) (Or.inl ⟨by rfl, ?_⟩) (by assumption) ?_
            rotate_left
            · intro w hSw; (try dsimp only at hSw); go_simp; try with_reducible rfl
            try simp only [Act.put, List.setIfInBounds_toArray, List.set_cons_zero, List.set_cons_succ]
            refine held_ready (i := 16) rfl (by kernel_rfl) (fun K hK => ?_)
            go_simp
            refine hK.out _ _ (cS.out) (fun hHeldN => ?_)
            clear hHeld hK K
            have hHeld := hHeldN
            clear hHeldN
            try simp only [Act.put, List.setIfInBounds_toArray, List.set_cons_zero, List.set_cons_succ]
            refine wpAnyH_done (by kernel_rfl) ?_ _
            clear hHeld
            go_wp2_with fail
            go_roundw
            case rel => exact ⟨k + 1, by omega, by go_num, nT.out.drew⟩
            case measure => simp [intOf]; omega
          · go_simp
            refine ca.out.mono ?_
            rintro e w3 ⟨rfl, rfl⟩
            refine hK.out _ _ (cT) (fun hHeldN => ?_)
            clear hHeld hK K
            have hHeld := hHeldN
            clear hHeldN
            try simp only [Act.put, List.setIfInBounds_toArray, List.set_cons_zero, List.set_cons_succ]
            refine held_take (i := 12) (v := ?_) rfl (by kernel_rfl) (by kernel_rfl) (by kernel_rfl) (fun _ _ _ h => h) (Or.inl ⟨by rfl, ?_⟩) (by assumption) ?_
            rotate_left
            · intro w hSw; (try dsimp only at hSw); go_simp; try with_reducible rfl
            try simp only [Act.put, List.setIfInBounds_toArray, List.set_cons_zero, List.set_cons_succ]
            refine held_take (i := 13) (v := ?_) rfl (by kernel_rfl) (by kernel_rfl) (by kernel_rfl) (fun _ _ _ h => h) (Or.inl ⟨by rfl, ?_⟩) (by assumption) ?_
            rotate_left
            · intro w hSw; (try dsimp only at hSw); go_simp; try with_reducible rfl
            try simp only [Act.put, List.setIfInBounds_toArray, List.set_cons_zero, List.set_cons_succ]
            refine held_ready (i := 2) rfl (by kernel_rfl) (fun K hK => ?_)
            go_simp
            refine hK.out _ _ (cT) (fun hHeldN => ?_)
            clear hHeld hK K
            have hHeld := hHeldN
            clear hHeldN
            try simp only [Act.put, List.setIfInBounds_toArray, List.set_cons_zero, List.set_cons_succ]
            refine held_take (i := 14) (v := ?_) rfl (by kernel_rfl) (by kernel_rfl) (by kernel_rfl) (fun _ _ _ h => h) (Or.inl ⟨by rfl, ?_⟩) (by assumption) ?_
            rotate_left
            · intro w hSw; (try dsimp only at hSw); go_simp; try with_reducible rfl
            try simp only [Act.put, List.setIfInBounds_toArray, List.set_cons_zero, List.set_cons_succ]
            refine held_take (i := 15) (v := ?_) rfl (by kernel_rfl) (by kernel_rfl) (by kernel_rfl) (fun _ _ _ h => h) (Or.inl ⟨by rfl, ?_⟩) (by assumption) ?_
            rotate_left
            · intro w hSw; (try dsimp only at hSw); go_simp; try with_reducible rfl
            try simp only [Act.put, List.setIfInBounds_toArray, List.set_cons_zero, List.set_cons_succ]
            refine held_ready (i := 16) rfl (by kernel_rfl) (fun K hK => ?_)
            go_simp
            refine hK.out _ _ (cS.out) (fun hHeldN => ?_)
            clear hHeld hK K
            have hHeld := hHeldN
            clear hHeldN
            try simp only [Act.put, List.setIfInBounds_toArray, List.set_cons_zero, List.set_cons_succ]
            refine wpAnyH_done (by kernel_rfl) ?_ _
            clear hHeld
            go_wp2_with fail
            go_roundw
            case rel => exact ⟨k + 1, by omega, by go_num, nT.out.drew⟩
            case measure => simp [intOf]; omega
        · obtain rfl : k = 4 := by omega
          rw [mid_next] at hT
          replace hT := Lib.hid hT
          go_wp2_with fail
          go_roundw
          case rel => exact ⟨i + 1, by omega, by go_num, hT.out⟩
          case measure => simp [intOf]; omega
    · obtain rfl : i = 16 := by omega
      rw [mid_all] at hS
      have hi : (Try.prog.info? 91).map (·.size) = some (u8s (tab (fun j => colTo fs x j 4))).size := by rw [size_tab]; rfl
      have hR := hS.o
      have hO := hS.z
      have hB := hS.low
      go_wp2_with (first
        | (refine wpList_load_b (by rfl) 91 (.tmp 7) rfl (w.heap.size + 3) rfl 91 _ hR _ Try.underlying91 rfl hi ?_)
        | (refine wpList_store_s (by rfl) 91 (.tmp 6) (.tmp 39) rfl (w.heap.size + 2) (tab (fun j => colTo fs x j 4)) rfl rfl 91 _ hO hi (by rw [size_tab]; rfl) ?_
           intro w2 R2 U2))
      refine ret_row rfl rfl (w.heap.size + 2) 91 _ (0, 0) _ rfl R2.out Try.underlying91 rfl hi ⟨rfl, ?_⟩
      exact hB.trans (U2.out.below (fun k hk e => by omega) hB.size)

end Go.Proofs.Ytecmagenlbnchaa
