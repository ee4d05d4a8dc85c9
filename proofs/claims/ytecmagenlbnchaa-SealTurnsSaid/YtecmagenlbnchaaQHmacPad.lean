/-
  hmac's pad (the closure of mac). Conditions: the key has at most 64 bytes; it lies in the captured variable.
-/
import Derived.Test.YtecmagenlbnchaaQOctetPut
import Derived.Test.YtecmagenlbnchaaQCut
import Derived.Laws.BitsAllLaws
import Derived.Laws.CopyOwn
namespace Go.Proofs.Ytecmagenlbnchaa
set_option maxRecDepth 100000
open Go.RowKit

theorem size8 : (Try.prog.info? 5).map (·.size) = some 1 := by kernel_rfl
/-- A text that is not empty: its place. -/
theorem TextAt.src {w : World} {ao : Option Addr} {n cap : Nat} {t : List Nat} (h : TextAt w (.slice ao n cap) t) (h0 : 0 < (u8l t).length) : ∃ ad, ao = some ad ∧ ∀ j v, (u8l t)[j]? = some v → w.cell? (ad.add j) = some v := by
  obtain ⟨ao', cap', e, _, _, h3⟩ := h.ex
  cases e
  have hj : ∀ j u, (u8l t)[j]? = some u → ∃ ad, ao = some ad ∧ w.cell? (ad.add j) = some u := h3.news
  obtain ⟨ad, rfl, _⟩ := hj 0 _ (List.getElem?_eq_getElem h0)
  exact ⟨ad, rfl, fun j v hv => by
    obtain ⟨ad', e, hc⟩ := hj j v hv
    cases e; exact hc⟩
set_option maxRecDepth 100000 in
theorem pad_any (w : World) (p b : Nat) (hb : b < 256) (vk : Value) (key : List Nat) (hc : w.cell? ⟨p, 0, none⟩ = some vk) (hk : TextAt w vk key) (h64 : key.length ≤ 64) :
    Calls Try.prog 107 #[.int .u8 (b : Int), .pointer (some ⟨p, 0, none⟩)] w fun e w' => e = .returned (.slice (some ⟨w.heap.size, 0, none⟩) 64 64) ∧ RowB w' w.heap.size 5 (padBy b key) ∧ Below w.heap.size w w' := by
  have hp : p < w.heap.size := block_lt_of_cell hc
  have hmk : ∀ x : World, (Instr.makeSlice 25 (.int .i64 64) (.int .i64 64)).run Try.prog x = .ok (.slice (some ⟨x.heap.size, 0, none⟩) 64 64) (x.alloc (.cells (u8s (List.replicate 64 0)) 5)) := fun _ => by kernel_rfl
  have sm := hk.small
  obtain ⟨ao, cap, rfl, h1, h2, h3⟩ := hk.ex
  obtain ⟨n, hn⟩ : ∃ n, n = key.length := ⟨_, rfl⟩
  obtain ⟨Z, hZ⟩ : ∃ Z, Z = List.replicate 64 0 := ⟨_, rfl⟩
  rw [← hZ] at hmk
  rw [← hn] at hc
  have h64' := h64
  replace h1 := Lib.hid h1
  replace h2 := Lib.hid h2
  replace h3 := Lib.hid h3
  replace hk := Lib.hid hk
  replace sm := Lib.hid sm
  replace hZ := Lib.hid hZ
  replace hn := Lib.hid hn
  replace h64' := Lib.hid h64'
  go_enter Try.func107, Try.ntmps107
  go_wp2_with (refine wpList_copy_splice rfl (.tmp 7) (.tmp 8) 25 25 rfl 5 Try.underlying25 size8 (some ⟨w.heap.size, 0, none⟩) ao 64 64 n cap rfl rfl w.heap.size 0 (u8l Z) 5 (by rw [heap_alloc_new]; rfl) (u8l key) (by simp only [u8l, List.length_map]; rw [← hn.out]; exact (Nat.min_eq_left (by rw [hn.out]; exact h64)).symm) (fun h0 => ⟨rfl, (hk.out.alloc _).src h0⟩) (by rw [hZ.out]; simp [u8l]; omega) (u8l_one _) w.heap.size w ((Below.refl _ _).alloc (Nat.le_refl _) _) (Nat.le_refl _) ?_; intro w2 hw2 hB2)
  have start : RowB w2 w.heap.size 5 (padTo b key 0) ∧ Below w.heap.size w w2 := by
    refine ⟨?_, hB2⟩
    have e : (splice (u8l Z) 0 (u8l key)).toArray = u8s (padTo b key 0) := by
      rw [padTo_zero, ← pad_splice (by exact h64'.out), hZ.out]
      unfold splice
      simp [u8l, u8s]
    rw [e] at hw2
    exact hw2
  have rbl : ∀ i, byt key i < 256 := byt_lt sm.out
  replace start := Lib.hid start
  replace rbl := Lib.hid rbl
  clear hw2 hB2
  go_wp2_with fail
  go_loopw [12] (fun i wr => ∃ k : Nat, k ≤ 64 ∧ i = .int .i64 k ∧ RowB wr w.heap.size 5 (padTo b key k) ∧ Below w.heap.size w wr) (fun i _ => 64 - (intOf i).toNat)
  case atStart => exact ⟨0, Nat.zero_le _, rfl, start.out⟩
  case round =>
    obtain ⟨k, hk', rfl, hR, hB⟩ := hrel
    by_cases hlt : k < 64
    · have c := hR.cell (padTo_get b key hlt)
      have f := hR.frozen k
      have hx := u8_xor_nat (byt key k) b (rbl.out k) hb
      have nR := hR.set k (byt key k ^^^ b)
      rw [padTo_set] at nR
      have nB := hB.setCell (p := ⟨w.heap.size, k, none⟩) (Nat.le_refl _) (.int .u8 ((byt key k ^^^ b : Nat) : Int))
      have hs := hR.lt
      generalize byt key k ^^^ b = y at *
      generalize byt key k = x at *
      replace hR := Lib.hid hR
      replace hB := Lib.hid hB
      replace nR := Lib.hid nR
      replace nB := Lib.hid nB
      go_wp2_with fail
      go_roundw
      case rel => exact ⟨k + 1, by omega, by go_num, nR.out, nB.out⟩
      case measure => simp [intOf]; omega
    · obtain rfl : k = 64 := by omega
      rw [padTo_full] at hR
      simp only [show ((64 : Nat) : Int) = 64 from rfl]
      replace hR := Lib.hid hR
      replace hB := Lib.hid hB
      go_wp2_with fail
      go_ret
      exact ⟨rfl, hR.out, hB.out⟩

end Go.Proofs.Ytecmagenlbnchaa
