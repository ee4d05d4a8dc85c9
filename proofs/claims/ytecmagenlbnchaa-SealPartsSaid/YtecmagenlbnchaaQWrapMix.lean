/-
  wrap's fits and mix. Conditions: a block of sixteen bytes; numbers not too great.
-/
import Derived.Test.YtecmagenlbnchaaQXtsVec
import Derived.Test.YtecmagenlbnchaaQOctetPut
import Derived.Lib.LazyBuf
namespace Go.Proofs.Ytecmagenlbnchaa
set_option maxRecDepth 100000
open Go.RowKit

def fitsB (n more : Nat) : Bool := decide (n % 8 = 0 ∧ (2 + more) * 8 ≤ n ∧ n ≤ (16 + more) * 8)
set_option maxRecDepth 100000 in
theorem fits_any (w : World) (n more : Nat) (hn : n < 9223372036854775808) (hm : more < 100) :
    Calls Try.prog 68 #[.int .i64 (n : Int), .int .i64 (more : Int)] w fun e w' => e = .returned (.bool (fitsB n more)) ∧ w = w' := by
  have e1 : ((n : Int)).tmod 8 = ((n % 8 : Nat) : Int) := by rw [Int.tmod_eq_emod_of_nonneg (by omega)]; omega
  have w1 : IntKind.i64.wrap (2 + (more : Int)) = ((2 + more : Nat) : Int) := by rw [IntWalk.i64_in _ (by omega)]; omega
  have w2 : IntKind.i64.wrap (((2 + more : Nat) : Int) * 8) = (((2 + more) * 8 : Nat) : Int) := by rw [IntWalk.i64_in _ (by omega)]; omega
  have w3 : IntKind.i64.wrap (16 + (more : Int)) = ((16 + more : Nat) : Int) := by rw [IntWalk.i64_in _ (by omega)]; omega
  have w4 : IntKind.i64.wrap (((16 + more : Nat) : Int) * 8) = (((16 + more) * 8 : Nat) : Int) := by rw [IntWalk.i64_in _ (by omega)]; omega
  unfold fitsB
  have fin : ∀ q : Prop, [Decidable q] → (q ↔ (n % 8 = 0 ∧ (2 + more) * 8 ≤ n ∧ n ≤ (16 + more) * 8)) → Ending.returned (.bool (decide q)) = Ending.returned (.bool (decide (n % 8 = 0 ∧ (2 + more) * 8 ≤ n ∧ n ≤ (16 + more) * 8))) := fun q _ h => by
    congr 2; rw [decide_eq_decide]; exact h
  by_cases h1 : n % 8 = 0
  · have d1 : decide (((n % 8 : Nat) : Int) = 0) = true := decide_eq_true (by omega)
    by_cases h2 : (2 + more) * 8 ≤ n
    · go_enter Try.func68, Try.ntmps68
      go_wp2_with fail
      go_ret
      exact ⟨fin _ (by omega), rfl⟩
    · have d2 : ¬ ((2 + (more : Int)) * 8 ≤ (n : Int)) := by omega
      go_enter Try.func68, Try.ntmps68
      go_wp2_with fail
      go_ret
      exact ⟨rfl, rfl⟩
  · have d1 : decide (((n % 8 : Nat) : Int) = 0) = false := decide_eq_false (by omega)
    have d1' : ¬ (((n % 8 : Nat) : Int) = 0) := by omega
    go_enter Try.func68, Try.ntmps68
    go_wp2_with fail
    go_ret
    exact ⟨Eq.trans rfl (fin False ⟨fun q => q.elim, fun q => h1 q.1⟩), rfl⟩

/-- A block of n cells whose bytes up to len are F's. -/
structure BlkAt (w : World) (g ty cap len : Nat) (F : Nat → Nat) : Prop where
  ex : ∃ f, w.rowIs g ty cap f ∧ ∀ j, j < len → f j = .int .u8 (F j : Int)
  le : len ≤ cap
theorem BlkAt.cell {w : World} {g ty cap len : Nat} {F : Nat → Nat} (h : BlkAt w g ty cap len F) {j : Nat} (hj : j < len) : w.cell? ⟨g, j, none⟩ = some (.int .u8 (F j : Int)) := by
  obtain ⟨f, h1, h2⟩ := h.ex
  rw [World.rowIs.cell h1 (i := j) (by have := h.le; omega), h2 j hj]
theorem BlkAt.froz {w : World} {g ty cap len : Nat} {F : Nat → Nat} (h : BlkAt w g ty cap len F) (j : Nat) : w.frozen? ⟨g, j, none⟩ = false := by
  obtain ⟨f, h1, h2⟩ := h.ex
  exact World.rowIs.frozen h1 j
theorem BlkAt.lt {w : World} {g ty cap len : Nat} {F : Nat → Nat} (h : BlkAt w g ty cap len F) : g < w.heap.size := by
  obtain ⟨f, h1, h2⟩ := h.ex
  exact World.rowIs.lt h1
theorem BlkAt.stay {w w' : World} {g ty cap len : Nat} {F : Nat → Nat} (h : BlkAt w g ty cap len F) (e : w'.heap[g]? = w.heap[g]?) : BlkAt w' g ty cap len F := by
  obtain ⟨f, h1, h2⟩ := h.ex
  exact ⟨⟨f, World.rowIs.of_block h1 e, h2⟩, h.le⟩
theorem BlkAt.congr {w : World} {g ty cap len : Nat} {F G : Nat → Nat} (h : BlkAt w g ty cap len F) (e : ∀ j, j < len → F j = G j) : BlkAt w g ty cap len G := by
  obtain ⟨f, h1, h2⟩ := h.ex
  exact ⟨⟨f, h1, fun j hj => by rw [h2 j hj, e j hj]⟩, h.le⟩
theorem BlkAt.set {w : World} {g ty cap len : Nat} {F : Nat → Nat} (h : BlkAt w g ty cap len F) (i v : Nat) : BlkAt (w.setCell ⟨g, i, none⟩ (.int .u8 (v : Int))) g ty cap len (fun j => if j = i then v else F j) := by
  obtain ⟨f, h1, h2⟩ := h.ex
  refine ⟨⟨_, World.rowIs.set h1 i (.int .u8 (v : Int)), fun j hj => ?_⟩, h.le⟩
  by_cases e : j = i
  · simp only [if_pos e]
  · simp only [if_neg e]; exact h2 j hj
/-- Bytes put in from o on. -/
def putAt (F : Nat → Nat) (o : Nat) (l : List Nat) : Nat → Nat := fun j => if o ≤ j ∧ j < o + l.length then byt l (j - o) else F j
theorem BlkAt.setL {w : World} {g ty cap len : Nat} {F : Nat → Nat} (h : BlkAt w g ty cap len F) (o : Nat) (l : List Nat) : BlkAt (w.setCells g o (u8l l)) g ty cap len (putAt F o l) := by
  obtain ⟨f, h1, h2⟩ := h.ex
  refine ⟨⟨_, rowIs_setCells (u8l l) o w _ h1, fun j hj => ?_⟩, h.le⟩
  have hl : (u8l l).length = l.length := by simp [u8l]
  simp only [hl]
  unfold putAt
  by_cases e : o ≤ j ∧ j < o + l.length
  · rw [if_pos e, if_pos e]
    have h3 : j - o < l.length := by omega
    simp [u8l, byt, List.getD, h3]
  · rw [if_neg e, if_neg e]; exact h2 j hj
theorem BlkAt.there {w : World} {g ty cap len : Nat} {F : Nat → Nat} (h : BlkAt w g ty cap len F) {o n : Nat} (hn : o + n ≤ len) : w.there g o n := fun j hj => ⟨by rw [h.cell (by omega)]; rfl, h.froz _⟩
/-- Its bytes from o on. -/
theorem BlkAt.src {w : World} {g ty cap len : Nat} {F : Nat → Nat} (h : BlkAt w g ty cap len F) {o n : Nat} (hn : o + n ≤ len) : ∀ j v, (u8l (bytesOf (fun i => F (o + i)) n))[j]? = some v → w.cell? (Addr.add ⟨g, o, none⟩ j) = some v := fun j v hv => by
  have hj : j < n := by
    have h1 := (List.getElem?_eq_some_iff.1 hv).1
    simpa [u8l] using h1
  have e : (u8l (bytesOf (fun i => F (o + i)) n))[j]? = some (.int .u8 (F (o + j) : Int)) := by simp [u8l, bytesOf, hj]
  rw [e] at hv
  cases hv
  rw [Addr.add_lit, h.cell (by omega)]

/-- A block of bytes with some numbers mixed in. -/
def mixTo (F : Nat → Nat) (m k : Nat) : Nat → Nat := fun j => if j < k then F j ^^^ (m / 256 ^ (7 - j) % 256) else F j
theorem mixTo_full (F : Nat → Nat) (m : Nat) : mixTo F m 8 = wmix F m := rfl
set_option maxRecDepth 100000 in
theorem mix_any (w : World) (g ty m : Nat) (F : Nat → Nat) (h : BlkAt w g ty 16 16 F) (hF : Bytes16 F) (hm : m < 4294967296) :
    Calls Try.prog 70 #[.slice (some ⟨g, 0, none⟩) 16 16, .int .i64 (m : Int)] w fun e w' => e = .returned (.tuple #[]) ∧ BlkAt w' g ty 16 16 (wmix F m) ∧ Upd (fun k => k = g) w w' := by
  have wm : IntKind.u64.wrap (m : Int) = (m : Int) := by rw [IntKind.wrap_u64]; omega
  have hg := h.lt
  replace h := Lib.hid h
  replace hF := Lib.hid hF
  replace hm := Lib.hid hm
  go_enter Try.func70, Try.ntmps70
  go_wp2_with fail
  refine (put64 w m).mono ?_
  rintro e w1 ⟨rfl, R1, B1⟩
  have h1 := h.out.stay (B1.block g hg)
  have U1 : Upd (fun k => k = g) w w1 := Upd.of_below B1
  have low := B1.size
  have hr := R1.lt
  clear B1
  replace h1 := Lib.hid h1
  replace U1 := Lib.hid U1
  replace R1 := Lib.hid R1
  go_wp2_with fail
  go_loopw [10] (fun i wr => ∃ k : Nat, k ≤ 8 ∧ i = .int .i64 k ∧ BlkAt wr g ty 16 16 (mixTo F m k) ∧ RowB wr w.heap.size 5 (beBytes 8 m) ∧ Upd (fun k => k = g) w wr) (fun i _ => 8 - (intOf i).toNat)
  case atStart => exact ⟨0, by decide, rfl, h1.out.congr (fun j _ => by unfold mixTo; rw [if_neg (by omega)]), R1.out, U1.out⟩
  case round =>
    obtain ⟨k, hk, rfl, hB, hR, hU⟩ := hrel
    by_cases hlt : k < 8
    · have c1 := hR.cell (i := k) (x := m / 256 ^ (7 - k) % 256) (by simp [beBytes, hlt])
      have c2 := hB.cell (j := k) (by omega)
      have e2 : mixTo F m k k = F k := by unfold mixTo; rw [if_neg (by omega)]
      rw [e2] at c2
      have fr := hB.froz k
      have hx : m / 256 ^ (7 - k) % 256 < 256 := Nat.mod_lt _ (by decide)
      have ev := u8_xor_nat (F k) (m / 256 ^ (7 - k) % 256) (hF.out k (by omega)) hx
      have nB := (hB.set k (F k ^^^ (m / 256 ^ (7 - k) % 256))).congr (G := mixTo F m (k + 1)) (fun j hj => by
        unfold mixTo
        by_cases e : j = k
        · subst e; rw [if_pos rfl, if_pos (by omega)]
        · rw [if_neg e]
          by_cases h2 : j < k
          · rw [if_pos h2, if_pos (by omega)]
          · rw [if_neg h2, if_neg (by omega)])
      have hne : w.heap.size ≠ g := by omega
      have nR := hR.other (heap_setCell_other wr ⟨g, k, none⟩ w.heap.size (.int .u8 ((F k ^^^ (m / 256 ^ (7 - k) % 256) : Nat) : Int)) hne)
      have nU := hU.setCell ⟨g, k, none⟩ (.int .u8 ((F k ^^^ (m / 256 ^ (7 - k) % 256) : Nat) : Int)) (fun _ => rfl)
      generalize m / 256 ^ (7 - k) % 256 = d at *
      generalize hy : F k ^^^ d = y at *
      generalize F k = x at *
      have k8 : ((k : Int) < 8) := by omega
      have k16 : ((k : Int) < 16) := by omega
      replace hB := Lib.hid hB
      replace hR := Lib.hid hR
      replace hU := Lib.hid hU
      replace nB := Lib.hid nB
      replace nR := Lib.hid nR
      replace nU := Lib.hid nU
      replace hx := Lib.hid hx
      replace hy := Lib.hid hy
      replace e2 := Lib.hid e2
      go_wp2_with fail
      go_roundw
      case rel => exact ⟨k + 1, by omega, by go_num, nB.out, nR.out, nU.out⟩
      case measure => simp [intOf]; omega
    · obtain rfl : k = 8 := by omega
      simp only [show ((8 : Nat) : Int) = 8 from rfl]
      replace hB := Lib.hid hB
      replace hR := Lib.hid hR
      replace hU := Lib.hid hU
      go_wp2_with fail
      go_end0
      exact ⟨rfl, by rw [← mixTo_full]; exact hB.out, hU.out⟩
end Go.Proofs.Ytecmagenlbnchaa
