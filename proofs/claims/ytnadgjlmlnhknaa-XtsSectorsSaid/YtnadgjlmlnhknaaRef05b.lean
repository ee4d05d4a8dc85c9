/-
  The reference of layer 5: rows, column, columns, round. Conditions: blocks of sixteen bytes.
-/
import Derived.Test.YtnadgjlmlnhknaaRef05
import Derived.Test.YtnadgjlmlnhknaaGfRef
import Derived.Test.YtnadgjlmlnhknaaAesCols
namespace Go.Proofs.Ytnadgjlmlnhknaa
open Go.RowKit

/-- Each row turned to the left by its number. -/
def shF (x : Nat → Nat) : Nat → Nat := fun i => x ((i + 4 * (i % 4)) % 16)

set_option maxHeartbeats 4000000 in
set_option maxRecDepth 100000 in
theorem rrows_any (w : World) (v : Value) (x : Nat → Nat) (hx : Bytes16 x) (hv : TextAt w v (tab x)) :
    Calls Try.prog 52 #[v] w fun e w' => ∃ v', e = .returned v' ∧ Own w' w.heap.size 5 v' (u8l (tab (shF x))) ∧ Below w.heap.size w w' := by
  obtain ⟨ao, cap, rfl, nx⟩ := hv.nth
  rw [length_tab] at nx ⊢
  have cell : ∀ p, p < 16 → ∃ ob oo, ao = some ⟨ob, oo, none⟩ ∧ w.cell? ⟨ob, oo + p, none⟩ = some (.int .u8 (x p : Int)) := fun p hp => by
    obtain ⟨ob, oo, e, h1⟩ := nx p hp
    rw [byt_tab x hp] at h1
    exact ⟨ob, oo, e, h1⟩
  clear nx
  replace hv := Lib.hid hv
  replace hx := Lib.hid hx
  replace cell := Lib.hid cell
  go_enter Try.func52, Try.ntmps52
  go_wp2_with fail
  go_loopw [3, 4] (fun o i wr => ∃ k : Nat, k ≤ 4 ∧ i = .int .i64 k ∧ Own wr w.heap.size 5 o (u8l (bytesOf (shF x) (4 * k))) ∧ Below w.heap.size w wr) (fun _ i _ => 4 - (intOf i).toNat)
  case atStart => exact ⟨0, Nat.zero_le _, rfl, Own.nil _ _ _, Below.refl _ _⟩
  case round =>
    obtain ⟨k, hk, rfl, hO, hB⟩ := hrel
    by_cases hlt : k < 4
    · skip
      replace hO := Lib.hid hO
      replace hB := Lib.hid hB
      obtain ⟨wq, rfl⟩ : ∃ wq : World, wq = wr := ⟨_, rfl⟩
      have d4 : decide ((k : Int) < 4) = true := decide_eq_true (by omega)
      go_wp2_with fail
      go_loopw [3, 5] (fun o i wr => ∃ r : Nat, r ≤ 4 ∧ i = .int .i64 r ∧ Own wr w.heap.size 5 o (u8l (bytesOf (shF x) (4 * k + r))) ∧ Below w.heap.size w wr) (fun _ i _ => 4 - (intOf i).toNat)
      case atStart => exact ⟨0, Nat.zero_le _, rfl, hO.out, hB.out⟩
      case round =>
        obtain ⟨r, hr, rfl, hP, hC⟩ := hrel
        clear hO hB
        by_cases hrt : r < 4
        · obtain ⟨q, eq⟩ : ∃ q, q = (k + r) % 4 := ⟨_, rfl⟩
          obtain ⟨p, ep⟩ : ∃ p, p = 4 * q + r := ⟨_, rfl⟩
          have hp : p < 16 := by omega
          obtain ⟨ob, oo, rfl, c1⟩ := cell.out p hp
          have ed : shF x (4 * k + r) = x p := by
            show x ((4 * k + r + 4 * ((4 * k + r) % 4)) % 16) = x p
            congr 1; omega
          have ld := hx.out p hp
          have sn := bytesOf_snoc (shF x) (4 * k + r)
          have ll : (bytesOf (shF x) (4 * k + r)).length = 4 * k + r := length_bytesOf _ _
          rw [ed] at sn
          generalize bytesOf (shF x) (4 * k + r) = L at *
          generalize x p = d at *
          have hs := hC.size
          have c2 := (hC.cell (block_lt_of_cell c1)).trans c1
          have n1 : IntKind.i64.wrap ((k : Int) + (r : Int)) = (k : Int) + (r : Int) := IntWalk.i64_in _ (by omega)
          have n2 : ((k : Int) + (r : Int)).tmod 4 = (q : Int) := by rw [Int.tmod_eq_emod_of_nonneg (by omega)]; omega
          have n3 : IntKind.i64.wrap (4 * (q : Int)) = 4 * (q : Int) := IntWalk.i64_in _ (by omega)
          have n4 : IntKind.i64.wrap (4 * (q : Int) + (r : Int)) = (p : Int) := by rw [IntWalk.i64_in _ (by omega)]; omega
          have p16 : (p : Int) < 16 := by omega
          have t1 := lit1 (wx := wr) ld
          have Ba : Below w.heap.size w (wr.alloc (.cells #[.int .u8 (d : Int)] 5)) := hC.alloc hs _
          have O1 := hP.alloc (.cells #[.int .u8 (d : Int)] 5)
          replace hP := Lib.hid hP
          replace hC := Lib.hid hC
          replace sn := Lib.hid sn
          replace ld := Lib.hid ld
          replace t1 := Lib.hid t1
          replace Ba := Lib.hid Ba
          replace O1 := Lib.hid O1
          replace eq := Lib.hid eq
          replace ep := Lib.hid ep
          replace hp := Lib.hid hp
          replace ed := Lib.hid ed
          go_wp2_with (at_builtin; refine wpList_append_s (by rfl) (.tmp 14) (.tmp 25) rfl w.heap.size w u3 L rfl O1.out Ba.out Ba.out.size _ [d] rfl t1.out (by rw [ll]; simp; omega) ?_; intro v7 w7 o7 B7)
          go_roundw
          case rel => exact ⟨r + 1, by omega, by go_num, by rw [show 4 * k + (r + 1) = 4 * k + r + 1 from rfl, sn.out]; exact o7.out, B7.out⟩
          case measure => simp [intOf]; omega
        · obtain rfl : r = 4 := by omega
          replace hP := Lib.hid hP
          replace hC := Lib.hid hC
          go_wp2_with fail
          go_roundw
          case rel => exact ⟨k + 1, by omega, by go_num, by rw [show 4 * (k + 1) = 4 * k + 4 from rfl]; exact hP.out, hC.out⟩
          case measure => simp [intOf]; omega
    · obtain rfl : k = 4 := by omega
      replace hO := Lib.hid hO
      replace hB := Lib.hid hB
      go_wp2_with fail
      go_ret
      exact ⟨_, rfl, hO.out, hB.out⟩

set_option maxHeartbeats 4000000 in
set_option maxRecDepth 100000 in
theorem rcolumn_any (w : World) (v u : Value) (y : Nat → Nat) (hy : ∀ i, i < 4 → y i < 256) (fs : List Nat) (hf : Factors fs) (hv : TextAt w v (bytesOf y 4)) (hu : TextAt w u fs) :
    Calls Try.prog 67 #[v, u] w fun e w' => ∃ v', e = .returned v' ∧ Own w' w.heap.size 5 v' (u8l (bytesOf (fun i => colTo fs y i 4) 4)) ∧ Below w.heap.size w w' := by
  obtain ⟨ax, cx, rfl, nx⟩ := hv.nth
  obtain ⟨af, cf, rfl, nf⟩ := hu.nth
  rw [length_bytesOf] at nx ⊢
  have lf : fs.length = 4 := hf.1
  rw [lf] at nf ⊢
  replace hv := Lib.hid hv
  replace hu := Lib.hid hu
  replace nx := Lib.hid nx
  replace nf := Lib.hid nf
  replace hy := Lib.hid hy
  replace hf := Lib.hid hf
  replace lf := Lib.hid lf
  go_enter Try.func67, Try.ntmps67
  go_wp2_with fail
  go_loopw [5, 6] (fun o i wr => ∃ k : Nat, k ≤ 4 ∧ i = .int .i64 k ∧ Own wr w.heap.size 5 o (u8l (bytesOf (fun i => colTo fs y i 4) k)) ∧ Below w.heap.size w wr) (fun _ i _ => 4 - (intOf i).toNat)
  case atStart => exact ⟨0, Nat.zero_le _, rfl, Own.nil _ _ _, Below.refl _ _⟩
  case round =>
    obtain ⟨i, hi, rfl, hO, hB⟩ := hrel
    by_cases hlt : i < 4
    · skip
      replace hO := Lib.hid hO
      replace hB := Lib.hid hB
      obtain ⟨wq, rfl⟩ : ∃ wq : World, wq = wr := ⟨_, rfl⟩
      have d4 : decide ((i : Int) < 4) = true := decide_eq_true (by omega)
      go_wp2_with fail
      go_loopw [7, 8] (fun n kk wr => ∃ k : Nat, k ≤ 4 ∧ kk = .int .i64 k ∧ n = .int .u8 (colTo fs y i k : Int) ∧ wr.heap = wq.heap ∧ Below wq.heap.size wq wr) (fun _ kk _ => 4 - (intOf kk).toNat)
      case atStart => exact ⟨0, Nat.zero_le _, rfl, rfl, rfl, Below.refl _ _⟩
      case round =>
        obtain ⟨k, hk, rfl, rfl, hh, hC⟩ := hrel
        by_cases hkt : k < 4
        · obtain ⟨q, eq⟩ : ∃ q, q = (i + k) % 4 := ⟨_, rfl⟩
          have hq : q < 4 := by omega
          obtain ⟨xb, xo, rfl, c1⟩ := nx.out q hq
          obtain ⟨fb, fo, rfl, c2⟩ := nf.out k hkt
          rw [byt_bytesOf y hq] at c1
          have ly := hy.out q hq
          have lfk := hf.out.lt hkt
          have lc := colTo_lt hf.out y i k hk
          have es : colTo fs y i (k + 1) = colTo fs y i k ^^^ gmul (byt fs k) (y q) := by
            show colTo fs y i k ^^^ gmul (byt fs k) (y (4 * (i / 4) + (i + k) % 4)) = _
            congr 3; omega
          have lg : gmul (byt fs k) (y q) < 256 := gmul_lt _ (by omega)
          have cm := fun (wx : World) => rmul_any (byt fs k) (y q) wx (by omega) ly
          have low := hB.out.trans (hC.mono hB.out.size)
          have c1' : wr.drew.cell? ⟨xb, xo + q, none⟩ = some (.int .u8 (y q : Int)) := (low.cell (block_lt_of_cell c1)).trans c1
          have c2' : wr.drew.cell? ⟨fb, fo + k, none⟩ = some (.int .u8 (byt fs k : Int)) := (low.cell (block_lt_of_cell c2)).trans c2
          have ex := u8_xor_nat (colTo fs y i k) (gmul (byt fs k) (y q)) lc lg
          rw [← es] at ex
          have hC2 : Below wq.heap.size wq wr.drew := hC.drew
          have hh2 : wr.drew.heap = wq.heap := hh
          obtain ⟨n2, en2⟩ : ∃ n2, n2 = colTo fs y i (k + 1) := ⟨_, rfl⟩
          rw [← en2] at es ex
          generalize colTo fs y i k = n1 at *
          generalize gmul (byt fs k) (y q) = m at *
          generalize byt fs k = f at *
          generalize y q = yq at *
          have m1 : IntKind.i64.wrap ((i : Int) + (k : Int)) = (i : Int) + (k : Int) := IntWalk.i64_in _ (by omega)
          have m2 : ((i : Int) + (k : Int)).tmod 4 = (q : Int) := by rw [Int.tmod_eq_emod_of_nonneg (by omega)]; omega
          have q4 : (q : Int) < 4 := by omega
          have k4 : (k : Int) < 4 := by omega
          clear c1 c2
          replace hh := Lib.hid hh
          replace hC := Lib.hid hC
          replace hC2 := Lib.hid hC2
          replace hh2 := Lib.hid hh2
          replace low := Lib.hid low
          replace cm := Lib.hid cm
          replace es := Lib.hid es
          replace lc := Lib.hid lc
          replace lg := Lib.hid lg
          replace ly := Lib.hid ly
          replace lfk := Lib.hid lfk
          replace eq := Lib.hid eq
          replace en2 := Lib.hid en2
          go_wp2_with fail
          refine wp_region_held_drew (S := (fun w' => w'.cell? ⟨xb, xo + q, none⟩ = some (.int .u8 (yq : Int)) ∧ w'.cell? ⟨fb, fo + k, none⟩ = some (.int .u8 (f : Int)))) (by kernel_rfl) (⟨c1', c2'⟩) (fun hHeld => ?_)
          refine held_take (i := 0) (v := ?_) rfl (by kernel_rfl) (by kernel_rfl) (by kernel_rfl) (fun _ _ _ h => h) (Or.inl ⟨by rfl, ?_⟩) (by assumption) ?_
          rotate_left
          · intro w hSw; (try dsimp only at hSw); go_simp; try with_reducible rfl
          try simp only [Act.put, List.setIfInBounds_toArray, List.set_cons_zero, List.set_cons_succ]
          refine held_take (i := 1) (v := ?_) rfl (by kernel_rfl) (by kernel_rfl) (by kernel_rfl) (fun _ _ _ h => h) (Or.inl ⟨by rfl, ?_⟩) (by assumption) ?_
          rotate_left
          · intro w hSw; (try dsimp only at hSw); go_simp; try with_reducible rfl
          try simp only [Act.put, List.setIfInBounds_toArray, List.set_cons_zero, List.set_cons_succ]
          refine held_take (i := 2) (v := ?_) rfl (by kernel_rfl) (by kernel_rfl) (by kernel_rfl) (fun _ _ _ h => h) (Or.inl ⟨by rfl, ?_⟩) (by assumption) ?_
          rotate_left
          · intro w hSw; (try dsimp only at hSw); go_simp; try with_reducible rfl
          try simp only [Act.put, List.setIfInBounds_toArray, List.set_cons_zero, List.set_cons_succ]
          refine held_take (i := 3) (v := ?_) rfl (by kernel_rfl) (by kernel_rfl) (by kernel_rfl) (fun _ _ _ h => h) (Or.inl ⟨by rfl, ?_⟩) (by assumption) ?_
          rotate_left
          · intro w hSw; (try dsimp only at hSw); go_simp; try with_reducible rfl
          try simp only [Act.put, List.setIfInBounds_toArray, List.set_cons_zero, List.set_cons_succ]
          refine held_take (i := 4) (v := ?_) rfl (by kernel_rfl) (by kernel_rfl) (by kernel_rfl) (fun _ _ _ h => h) (Or.inl ⟨by rfl, ?_⟩) (by assumption) ?_
          rotate_left
          · intro w hSw; (try dsimp only at hSw); go_simp; try with_reducible rfl
          try simp only [Act.put, List.setIfInBounds_toArray, List.set_cons_zero, List.set_cons_succ]
          refine held_take (i := 5) (v := ?_) rfl (by kernel_rfl) (by kernel_rfl) (by kernel_rfl) (fun _ _ _ h => h) (Or.inl ⟨by rfl, ?_⟩) (by assumption) ?_
          rotate_left
          · intro w hSw; (try dsimp only at hSw); go_simp; try with_reducible rfl
          try simp only [Act.put, List.setIfInBounds_toArray, List.set_cons_zero, List.set_cons_succ]
          refine held_take (i := 6) (v := ?_) rfl (by kernel_rfl) (by kernel_rfl) (by kernel_rfl) (fun _ _ _ h => h) (Or.inl ⟨by rfl, ?_⟩) (by assumption) ?_
          rotate_left
          · intro w hSw; (try dsimp only at hSw); go_simp; try with_reducible rfl
          try simp only [Act.put, List.setIfInBounds_toArray, List.set_cons_zero, List.set_cons_succ]
          refine held_take (i := 7) (v := ?_) rfl (by kernel_rfl) (by kernel_rfl) (by kernel_rfl) (fun _ _ _ h => h) (Or.inl ⟨by rfl, ?_⟩) (by assumption) ?_
          rotate_left
          · intro w hSw; (try dsimp only at hSw); go_simp; try with_reducible rfl
          try simp only [Act.put, List.setIfInBounds_toArray, List.set_cons_zero, List.set_cons_succ]
          refine held_take (i := 8) (v := ?_) rfl (by kernel_rfl) (by kernel_rfl) (by kernel_rfl) (fun _ _ _ h => h) (Or.inl ⟨by rfl, ?_⟩) (by assumption) ?_
          rotate_left
          · intro w hSw; (try dsimp only at hSw); go_simp; try with_reducible rfl
          try simp only [Act.put, List.setIfInBounds_toArray, List.set_cons_zero, List.set_cons_succ]
          refine held_take (i := 9) (v := ?_) rfl (by kernel_rfl) (by kernel_rfl) (by kernel_rfl) (fun _ _ _ h => h) (Or.inl ⟨by rfl, ?_⟩) (by assumption) ?_
          rotate_left
          · intro w hSw; (try dsimp only at hSw); go_simp; try with_reducible rfl
          try simp only [Act.put, List.setIfInBounds_toArray, List.set_cons_zero, List.set_cons_succ]
          refine held_take (i := 10) (v := ?_) rfl (by kernel_rfl) (by kernel_rfl) (by kernel_rfl) (fun _ _ _ h => h) (Or.inl ⟨by rfl, ?_⟩) (by assumption) ?_
          rotate_left
          · intro w hSw; (try dsimp only at hSw); go_simp; try with_reducible rfl
          try simp only [Act.put, List.setIfInBounds_toArray, List.set_cons_zero, List.set_cons_succ]
          refine held_take (i := 11) (v := ?_) rfl (by kernel_rfl) (by kernel_rfl) (by kernel_rfl) (fun _ _ _ h => h) (Or.inl ⟨by rfl, ?_⟩) (by assumption) ?_
          rotate_left
          · intro w hSw; (try dsimp only at hSw); go_simp; try with_reducible rfl
          try simp only [Act.put, List.setIfInBounds_toArray, List.set_cons_zero, List.set_cons_succ]
          refine held_ready (i := 12) rfl (by kernel_rfl) (fun K hK => ?_)
          go_simp
          refine (cm.out _).mono ?_
          rintro e w3 ⟨rfl, rfl⟩
          refine hK.out _ _ (⟨c1', c2'⟩) (fun hHeldN => ?_)
          clear hHeld hK K
          have hHeld := hHeldN
          clear hHeldN
          try simp only [Act.put, List.setIfInBounds_toArray, List.set_cons_zero, List.set_cons_succ]
          refine held_take (i := 13) (v := ?_) rfl (by kernel_rfl) (by kernel_rfl) (by kernel_rfl) (fun _ _ _ h => h) (Or.inl ⟨by rfl, ?_⟩) (by assumption) ?_
          rotate_left
          · intro w hSw; (try dsimp only at hSw); go_simp; try with_reducible rfl
          try simp only [Act.put, List.setIfInBounds_toArray, List.set_cons_zero, List.set_cons_succ]
          refine held_take (i := 14) (v := ?_) rfl (by kernel_rfl) (by kernel_rfl) (by kernel_rfl) (fun _ _ _ h => h) (Or.inl ⟨by rfl, ?_⟩) (by assumption) ?_
          rotate_left
          · intro w hSw; (try dsimp only at hSw); go_simp; try with_reducible rfl
          try simp only [Act.put, List.setIfInBounds_toArray, List.set_cons_zero, List.set_cons_succ]
          refine wpAnyH_done (by kernel_rfl) ?_ _
          clear hHeld
          go_wp2_with fail
          go_roundw
          case rel => exact ⟨k + 1, by omega, by go_num, by rw [← en2.out], hh2.out, hC2.out⟩
          case measure => simp [intOf]; omega
        · obtain rfl : k = 4 := by omega
          have ld := colTo_lt hf.out y i 4 (Nat.le_refl _)
          have sn := bytesOf_snoc (fun i => colTo fs y i 4) i
          have ll : (bytesOf (fun i => colTo fs y i 4) i).length = i := length_bytesOf _ _
          have low := hB.out.trans (hC.mono hB.out.size)
          have hs := low.size
          have hOw := hO.out.below hC
          generalize bytesOf (fun i => colTo fs y i 4) i = L at *
          generalize colTo fs y i 4 = d at *
          have t1 := lit1 (wx := wr) ld
          have Ba : Below w.heap.size w (wr.alloc (.cells #[.int .u8 (d : Int)] 5)) := low.alloc hs _
          have O1 := hOw.alloc (.cells #[.int .u8 (d : Int)] 5)
          clear hOw
          replace hh := Lib.hid hh
          replace hC := Lib.hid hC
          replace low := Lib.hid low
          replace sn := Lib.hid sn
          replace ld := Lib.hid ld
          replace t1 := Lib.hid t1
          replace Ba := Lib.hid Ba
          replace O1 := Lib.hid O1
          go_wp2_with (at_builtin; refine wpList_append_s (by rfl) (.tmp 31) (.tmp 33) rfl w.heap.size w u5 L rfl O1.out Ba.out Ba.out.size _ [d] rfl t1.out (by rw [ll]; simp; omega) ?_; intro v7 w7 o7 B7)
          go_roundw
          case rel => exact ⟨i + 1, by omega, by go_num, by rw [sn.out]; exact o7.out, B7.out⟩
          case measure => simp [intOf]; omega
    · obtain rfl : i = 4 := by omega
      replace hO := Lib.hid hO
      replace hB := Lib.hid hB
      go_wp2_with fail
      go_ret
      exact ⟨_, rfl, hO.out, hB.out⟩

theorem col_shift (fs : List Nat) (x : Nat → Nat) (q : Nat) {i : Nat} (hi : i < 4) : ∀ k, colTo fs (fun j => x (4 * q + j)) i k = colTo fs x (4 * q + i) k
  | 0 => rfl
  | k + 1 => by
    show colTo fs (fun j => x (4 * q + j)) i k ^^^ gmul (byt fs k) (x (4 * q + (4 * (i / 4) + (i + k) % 4))) = colTo fs x (4 * q + i) k ^^^ gmul (byt fs k) (x (4 * ((4 * q + i) / 4) + (4 * q + i + k) % 4))
    rw [col_shift fs x q hi k]
    congr 3; omega
theorem take_tab (x : Nat → Nat) {q : Nat} (hq : q < 4) : ((tab x).drop (4 * q)).take 4 = bytesOf (fun j => x (4 * q + j)) 4 := by
  have e : tab x = bytesOf x (4 * q) ++ (bytesOf (fun j => x (4 * q + j)) 4 ++ bytesOf (fun j => x (4 * q + 4 + j)) (16 - (4 * q + 4))) := by
    show bytesOf x 16 = _
    rw [show (16 : Nat) = 4 * q + (4 + (16 - (4 * q + 4))) by omega, bytesOf_add, bytesOf_add]
    congr 2
    have e2 : 4 * q + (4 + (16 - (4 * q + 4))) - (4 * q + 4) = 16 - (4 * q + 4) := by omega
    rw [e2]
    refine bytesOf_congr fun j _ => ?_
    rw [Nat.add_assoc]
  rw [e, List.drop_left' (length_bytesOf _ _), List.take_left' (length_bytesOf _ _)]
set_option maxHeartbeats 4000000 in
set_option maxRecDepth 100000 in
theorem rcolumns_any (w : World) (v u : Value) (x : Nat → Nat) (hx : Bytes16 x) (fs : List Nat) (hf : Factors fs) (hv : TextAt w v (tab x)) (hu : TextAt w u fs) :
    Calls Try.prog 53 #[v, u] w fun e w' => ∃ v', e = .returned v' ∧ Own w' w.heap.size 5 v' (u8l (tab (fun j => colTo fs x j 4))) ∧ Below w.heap.size w w' := by
  obtain ⟨ax, cx, rfl, cxl, _⟩ := hv.ex
  have lt16 := length_tab x
  obtain ⟨af, cf, rfl, _⟩ := hu.ex
  have lf : fs.length = 4 := hf.1
  have cuts := fun q (hq : q < 4) => TextAt.cut (lo := 4 * q) (hi := 4 * q + 4) hv (by omega) (by rw [lt16]; omega)
  rw [lt16] at cxl ⊢
  rw [lf] at hu ⊢
  have cutt : ∀ q, q < 4 → TextAt w (.slice (cutA ax cx (4 * q)) 4 (cx - 4 * q)) (bytesOf (fun j => x (4 * q + j)) 4) := fun q hq => by
    have h := cuts q hq
    rw [show 4 * q + 4 - 4 * q = 4 by omega, take_tab x hq] at h
    exact h
  clear cuts
  replace hv := Lib.hid hv
  replace hu := Lib.hid hu
  replace hx := Lib.hid hx
  replace hf := Lib.hid hf
  replace lf := Lib.hid lf
  replace lt16 := Lib.hid lt16
  replace cutt := Lib.hid cutt
  go_enter Try.func53, Try.ntmps53
  go_wp2_with fail
  go_loopw [5, 6] (fun o i wr => ∃ q : Nat, q ≤ 4 ∧ i = .int .i64 ((4 * q : Nat) : Int) ∧ Own wr w.heap.size 5 o (u8l (bytesOf (fun j => colTo fs x j 4) (4 * q))) ∧ Below w.heap.size w wr) (fun _ i _ => 16 - (intOf i).toNat)
  case atStart => exact ⟨0, Nat.zero_le _, rfl, Own.nil _ _ _, Below.refl _ _⟩
  case round =>
    obtain ⟨q, hq, rfl, hO, hB⟩ := hrel
    by_cases hlt : q < 4
    · have tc := (cutt.out q hlt).below hB
      have tf := hu.out.below hB
      have cc := rcolumn_any wr _ _ (fun j => x (4 * q + j)) (fun i hi => hx.out _ (by omega)) fs hf.out tc tf
      have e4 : bytesOf (fun i => colTo fs (fun j => x (4 * q + j)) i 4) 4 = bytesOf (fun i => colTo fs x (4 * q + i) 4) 4 := bytesOf_congr fun i hi => col_shift fs x q hi 4
      rw [e4] at cc
      have ea := bytesOf_add (fun j => colTo fs x j 4) (4 * q) 4
      have lA : (bytesOf (fun j => colTo fs x j 4) (4 * q)).length = 4 * q := length_bytesOf _ _
      have lB : (bytesOf (fun i => colTo fs x (4 * q + i) 4) 4).length = 4 := length_bytesOf _ _
      have sB : ∀ y ∈ bytesOf (fun i => colTo fs x (4 * q + i) 4) 4, y < 256 := bytesOf_lt fun i hi => colTo_lt hf.out x _ 4 (Nat.le_refl _)
      generalize bytesOf (fun j => colTo fs x j 4) (4 * q) = L at *
      generalize bytesOf (fun i => colTo fs x (4 * q + i) 4) 4 = M at *
      have hs := hB.size
      obtain ⟨z, ez⟩ : ∃ z, z = 4 * q := ⟨_, rfl⟩
      rw [← ez]
      have n1 : IntKind.i64.wrap ((z : Int) + 4) = (z : Int) + 4 := IntWalk.i64_in _ (by omega)
      have cut := run_cut_lh (P := Try.prog) (T := 29) (e := 5) Try.underlying29 (by kernel_rfl) ax 16 cx z (z + 4) (by omega) (by omega) ((z : Int)) ((z : Int) + 4) rfl (by omega)
      rw [show z + 4 - z = 4 by omega] at cut
      rw [← ez] at cc
      have z16 : decide ((z : Int) < 16) = true := decide_eq_true (by omega)
      clear tc tf
      replace hO := Lib.hid hO
      replace hB := Lib.hid hB
      replace cc := Lib.hid cc
      replace e4 := Lib.hid e4
      replace ea := Lib.hid ea
      replace lA := Lib.hid lA
      replace lB := Lib.hid lB
      replace sB := Lib.hid sB
      replace ez := Lib.hid ez
      go_wp2_with fail
      refine cc.out.mono ?_
      rintro e w3 ⟨v3, rfl, o3, B3⟩
      have O3 := hO.out.below B3
      have low3 := hB.out.trans (B3.mono hs)
      have t3 := o3.text sB.out
      replace o3 := Lib.hid o3
      replace B3 := Lib.hid B3
      replace O3 := Lib.hid O3
      replace low3 := Lib.hid low3
      replace t3 := Lib.hid t3
      go_wp2_with (at_builtin; refine wpList_append_s (by rfl) (.tmp 11) (.tmp 18) rfl w.heap.size w u5 L rfl O3.out low3.out low3.out.size v3 M rfl t3.out (by rw [lA.out, lB.out]; omega) ?_; intro v7 w7 o7 B7)
      go_roundw
      case rel => exact ⟨q + 1, by omega, by have := ez.out; go_num, by rw [show 4 * (q + 1) = 4 * q + 4 from rfl, ea.out]; exact o7.out, B7.out⟩
      case measure => simp [intOf]; have := ez.out; omega
    · obtain rfl : q = 4 := by omega
      replace hO := Lib.hid hO
      replace hB := Lib.hid hB
      go_wp2_with fail
      go_ret
      exact ⟨_, rfl, hO.out, hB.out⟩

set_option maxHeartbeats 4000000 in
set_option maxRecDepth 100000 in
theorem rround_any (w : World) (c : Nat) (aw : Option Addr) (cw : Nat) (vb vk : Value) (W : Nat → Nat) (hW : ∀ i, W i < 256) (hC : RefC w c aw cw vb vk W) (r : Nat) (hr : r < 15) :
    Calls Try.prog 51 #[.pointer (some ⟨c, 0, none⟩), .int .i64 (r : Int)] w fun e w' => ∃ v', e = .returned v' ∧ Own w' w.heap.size 5 v' (u8l (bytesOf (fun i => W (16 * r + i)) 16)) ∧ Below w.heap.size w w' := by
  have lw : (wordsT W).length = 60 := by simp [wordsT]
  have c0 : w.cell? ⟨c, 0, none⟩ = some (.slice aw 60 cw) := (cell_of_row _ _ 0 _ _ _ hC.row).trans rfl
  have hwords : ∀ i, i < 60 → ∃ ob oo ai ci, aw = some ⟨ob, oo, none⟩ ∧ w.cell? ⟨ob, oo + i, none⟩ = some (.slice ai 4 ci) ∧ TextAt w (.slice ai 4 ci) (bytesOf (fun k => W (4 * i + k)) 4) := fun i hi => by
    obtain ⟨ob, oo, e, ai, ci, h1, h2, h3, h4⟩ := hC.words i (by rw [lw]; exact hi)
    have eg : (wordsT W).getD i [] = bytesOf (fun k => W (4 * i + k)) 4 := by simp [wordsT, List.getD, hi]
    rw [eg, length_bytesOf] at h1 h2 h3
    exact ⟨ob, oo, ai, ci, e, h1, ⟨ai, ci, by rw [length_bytesOf], by rw [length_bytesOf]; exact h2, h4, by rw [length_bytesOf]; exact h3⟩⟩
  replace hC := Lib.hid hC
  replace lw := Lib.hid lw
  replace c0 := Lib.hid c0
  replace hwords := Lib.hid hwords
  replace hW := Lib.hid hW
  go_enter Try.func51, Try.ntmps51
  have r1 : IntKind.i64.wrap (4 * (r : Int)) = ((4 * r : Nat) : Int) := by rw [IntWalk.i64_in _ (by omega)]; omega
  obtain ⟨z, ez⟩ : ∃ z, z = 4 * r := ⟨_, rfl⟩
  rw [← ez] at r1
  have r2 : IntKind.i64.wrap ((z : Int) + 4) = (z : Int) + 4 := IntWalk.i64_in _ (by omega)
  replace ez := Lib.hid ez
  go_wp2_with fail
  go_loopw [5, 6] (fun o i wr => ∃ k : Nat, k ≤ 4 ∧ i = .int .i64 ((z + k : Nat) : Int) ∧ Own wr w.heap.size 5 o (u8l (bytesOf (fun i => W (16 * r + i)) (4 * k))) ∧ Below w.heap.size w wr) (fun _ i _ => z + 4 - (intOf i).toNat)
  case atStart => exact ⟨0, Nat.zero_le _, by simp, Own.nil _ _ _, Below.refl _ _⟩
  case round =>
    obtain ⟨k, hk, rfl, hO, hB⟩ := hrel
    by_cases hlt : k < 4
    · obtain ⟨q, eq⟩ : ∃ q, q = z + k := ⟨_, rfl⟩
      rw [← eq]
      have hq60 : q < 60 := by have := ez.out; omega
      obtain ⟨ob, oo, ai, ci, rfl, h1, h2⟩ := hwords.out q hq60
      have ew : (fun k => W (4 * q + k)) = (fun j => W (16 * r + (4 * k + j))) := funext fun j => by congr 1; have := ez.out; omega
      have ea := bytesOf_add (fun i => W (16 * r + i)) (4 * k) 4
      rw [ew] at h2
      have lA : (bytesOf (fun i => W (16 * r + i)) (4 * k)).length = 4 * k := length_bytesOf _ _
      have lB : (bytesOf (fun i => W (16 * r + (4 * k + i))) 4).length = 4 := length_bytesOf _ _
      generalize bytesOf (fun i => W (16 * r + i)) (4 * k) = L at *
      generalize bytesOf (fun i => W (16 * r + (4 * k + i))) 4 = M at *
      have q0 := (hB.cell (block_lt_of_cell c0.out)).trans c0.out
      have q1 := (hB.cell (block_lt_of_cell h1)).trans h1
      have t1 := h2.below hB
      have hs := hB.size
      have qlt : decide ((q : Int) < (z : Int) + 4) = true := decide_eq_true (by omega)
      have q6 : (q : Int) < 60 := by omega
      clear h1
      replace hO := Lib.hid hO
      replace hB := Lib.hid hB
      replace ea := Lib.hid ea
      replace lA := Lib.hid lA
      replace lB := Lib.hid lB
      replace h2 := Lib.hid h2
      replace t1 := Lib.hid t1
      replace eq := Lib.hid eq
      replace ew := Lib.hid ew
      go_wp2_with (at_builtin; refine wpList_append_s (by rfl) (.tmp 16) (.tmp 23) rfl w.heap.size w u5 L rfl hO.out hB.out hs (.slice ai 4 ci) M rfl t1.out (by rw [lA.out, lB.out]; omega) ?_; intro v7 w7 o7 B7)
      go_roundw
      case rel => exact ⟨k + 1, by omega, by have := eq.out; go_num, by rw [show 4 * (k + 1) = 4 * k + 4 from rfl, ea.out]; exact o7.out, B7.out⟩
      case measure => simp [intOf]; have := eq.out; omega
    · obtain rfl : k = 4 := by omega
      have qlt : decide (((z + 4 : Nat) : Int) < (z : Int) + 4) = false := decide_eq_false (by omega)
      replace hO := Lib.hid hO
      replace hB := Lib.hid hB
      go_wp2_with fail
      go_ret
      exact ⟨_, rfl, hO.out, hB.out⟩
end Go.Proofs.Ytnadgjlmlnhknaa
