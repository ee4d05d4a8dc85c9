/-
  keys: Volume; a counter's epoch. Condition: a master key of 32 bytes.
  seal: a fixed call's first block, reckoned: it is not the block that was sealed. No condition; no program in sight.
-/
import Derived.Test.YtecmagenlbnchaaQKeysBase
import Derived.Test.YtecmagenlbnchaaQKeysRow
import Derived.Test.YtecmagenlbnchaaQKeysSmall
import Derived.Test.YtecmagenlbnchaaQXtsVec
namespace Go.Proofs.Ytecmagenlbnchaa
set_option maxRecDepth 100000
open Go.RowKit

/-- A volume's key of a name. -/
def volK (master name : List Nat) (n : Nat) : List Nat := macs master (name ++ beBytes 8 n ++ [1])
def nmOne : List Nat := [111, 110, 101]
def nmTwo : List Nat := [116, 119, 111]
theorem text_one : textOf ⟨#[111, 110, 101]⟩ = nmOne := by decide
theorem text_two : textOf ⟨#[116, 119, 111]⟩ = nmTwo := by decide
/-- What Volume keeps. -/
structure VoSt (w w' : World) (m a b : List Nat) : Prop where
  m : RowB w' w.heap.size 23 m
  a : RowB w' (w.heap.size + 1) 23 a
  b : RowB w' (w.heap.size + 2) 23 b
  low : Below w.heap.size w w'
theorem VoSt.call {w w' w2 : World} {m a b : List Nat} (h : VoSt w w' m a b) (hB : Below w'.heap.size w' w2) : VoSt w w2 m a b :=
  ⟨h.m.below hB h.m.lt, h.a.below hB h.a.lt, h.b.below hB h.b.lt, h.low.trans (hB.mono h.low.size)⟩
theorem VoSt.putA {w w' w2 : World} {m a b a' : List Nat} (h : VoSt w w' m a b) (hR : RowB w2 (w.heap.size + 1) 23 a') (hU : Upd (fun i => i = w.heap.size + 1) w' w2) : VoSt w w2 m a' b :=
  ⟨h.m.other (hU.block _ h.m.lt (by omega)), hR, h.b.other (hU.block _ h.b.lt (by omega)), h.low.trans (hU.below (fun k hk e => by omega) h.low.size)⟩
theorem VoSt.putB {w w' w2 : World} {m a b b' : List Nat} (h : VoSt w w' m a b) (hR : RowB w2 (w.heap.size + 2) 23 b') (hU : Upd (fun i => i = w.heap.size + 2) w' w2) : VoSt w w2 m a b' :=
  ⟨h.m.other (hU.block _ h.m.lt (by omega)), h.a.other (hU.block _ h.a.lt (by omega)), hR, h.low.trans (hU.below (fun k hk e => by omega) h.low.size)⟩
theorem VoSt.begin (w : World) (m : List Nat) : VoSt w (((w.alloc (.cells (u8s m) 23)).alloc (.cells (u8s (List.replicate 32 0)) 23)).alloc (.cells (u8s (List.replicate 32 0)) 23)) m (List.replicate 32 0) (List.replicate 32 0) := by
  have r0 : RowB (w.alloc (.cells (u8s m) 23)) w.heap.size 23 m := heap_alloc_new _ _
  have r1 : RowB ((w.alloc (.cells (u8s m) 23)).alloc (.cells (u8s (List.replicate 32 0)) 23)) (w.heap.size + 1) 23 (List.replicate 32 0) := by
    rw [show w.heap.size + 1 = (w.alloc (.cells (u8s m) 23)).heap.size by simp]; exact heap_alloc_new _ _
  have r2 : RowB (((w.alloc (.cells (u8s m) 23)).alloc (.cells (u8s (List.replicate 32 0)) 23)).alloc (.cells (u8s (List.replicate 32 0)) 23)) (w.heap.size + 2) 23 (List.replicate 32 0) := by
    rw [show w.heap.size + 2 = ((w.alloc (.cells (u8s m) 23)).alloc (.cells (u8s (List.replicate 32 0)) 23)).heap.size by simp]; exact heap_alloc_new _ _
  exact ⟨(r0.alloc _).alloc _, r1.alloc _, r2, (((Below.refl _ _).alloc (Nat.le_refl _) _).alloc (by simp) _).alloc (by simp; omega) _⟩
theorem volK_length (m n : List Nat) (k : Nat) : (volK m n k).length = 32 := macs_length _ _
theorem volK_small (m n : List Nat) (k : Nat) : ∀ x ∈ volK m n k, x < 256 := macs_small _ _

set_option maxHeartbeats 4000000 in
set_option maxRecDepth 100000 in
theorem volume_any (w : World) (master : List Nat) (n : Nat) (hm : master.length = 32) (sm : ∀ x ∈ master, x < 256) (_hn : n < 18446744073709551616) :
    Calls Try.prog 30 #[.agg (u8s master), .int .u64 (n : Int)] w fun e w' => e = .returned (.tuple #[.agg (u8s (volK master nmOne n)), .agg (u8s (volK master nmTwo n))]) ∧ Below w.heap.size w w' := by
  have st0 := VoSt.begin w master
  have c1 := fun wx => derive_any wx master ⟨#[111, 110, 101]⟩ n hm sm (by decide)
  have c2 := fun wx => derive_any wx master ⟨#[116, 119, 111]⟩ n hm sm (by decide)
  rw [text_one] at c1
  rw [text_two] at c2
  have e1 : macs master (nmOne ++ beBytes 8 n ++ [1]) = volK master nmOne n := rfl
  have e2 : macs master (nmTwo ++ beBytes 8 n ++ [1]) = volK master nmTwo n := rfl
  rw [e1] at c1
  rw [e2] at c2
  have l1 := volK_length master nmOne n
  have l2 := volK_length master nmTwo n
  clear e1 e2
  generalize volK master nmOne n = K1 at *
  generalize volK master nmTwo n = K2 at *
  have iM := infoKey hm
  have i1 := infoKey l1
  have i2 := infoKey l2
  have z1 : (u8s (List.replicate 32 0)).size = (u8s K1).size := by rw [size_u8s, size_u8s, l1]; simp
  have z2 : (u8s (List.replicate 32 0)).size = (u8s K2).size := by rw [size_u8s, size_u8s, l2]; simp
  replace st0 := Lib.hid st0
  replace c1 := Lib.hid c1
  replace c2 := Lib.hid c2
  replace l1 := Lib.hid l1
  replace l2 := Lib.hid l2
  replace sm := Lib.hid sm
  replace hm := Lib.hid hm
  replace i1 := Lib.hid i1
  replace i2 := Lib.hid i2
  replace z1 := Lib.hid z1
  replace z2 := Lib.hid z2
  go_enter Try.func30, Try.ntmps30
  go_wp2_with fail
  have hS := st0.out.call (Below.refl _ _).drew
  refine wp_region_held_drew (S := (fun w' => RowB w' w.heap.size 23 master)) (by kernel_rfl) (hS.m) (fun hHeld => ?_)
  refine held_take (i := 0) (v := _) rfl (by kernel_rfl) (by kernel_rfl) (by kernel_rfl) (fun _ _ _ h => h) (yieldsIf_row (by rfl) rfl rfl Try.underlying23 iM (fun w' h => h)) (by assumption) ?_
  try simp only [Act.put, List.setIfInBounds_toArray, List.set_cons_zero, List.set_cons_succ]
  refine held_take (i := 1) (v := ?_) rfl (by kernel_rfl) (by kernel_rfl) (by kernel_rfl) (fun _ _ _ h => h) (Or.inl ⟨by rfl, ?_⟩) (by assumption) ?_
  rotate_left
  · intro w hSw; (try dsimp only at hSw); go_simp; try with_reducible rfl
  try simp only [Act.put, List.setIfInBounds_toArray, List.set_cons_zero, List.set_cons_succ]
  refine held_take (i := 3) (v := _) rfl (by kernel_rfl) (by kernel_rfl) (by kernel_rfl) (fun _ _ _ h => h) (yieldsIf_row (by rfl) rfl rfl Try.underlying23 iM (fun w' h => h)) (by assumption) ?_
  try simp only [Act.put, List.setIfInBounds_toArray, List.set_cons_zero, List.set_cons_succ]
  refine held_take (i := 4) (v := ?_) rfl (by kernel_rfl) (by kernel_rfl) (by kernel_rfl) (fun _ _ _ h => h) (Or.inl ⟨by rfl, ?_⟩) (by assumption) ?_
  rotate_left
  · intro w hSw; (try dsimp only at hSw); go_simp; try with_reducible rfl
  try simp only [Act.put, List.setIfInBounds_toArray, List.set_cons_zero, List.set_cons_succ]
  refine held_ready (i := 2) rfl (by kernel_rfl) (fun K hK => ?_)
  go_simp
  refine (c1.out _).mono ?_
  rintro e w1 ⟨rfl, B1⟩
  have h1 := hS.call B1
  clear B1 hS
  replace h1 := Lib.hid h1
  refine hK.out _ _ (h1.out.m) (fun hHeldN => ?_)
  clear hHeld hK K
  have hHeld := hHeldN
  clear hHeldN
  try simp only [Act.put, List.setIfInBounds_toArray, List.set_cons_zero, List.set_cons_succ]
  refine held_ready (i := 5) rfl (by kernel_rfl) (fun K hK => ?_)
  go_simp
  refine (c2.out _).mono ?_
  rintro e w2 ⟨rfl, B2⟩
  have h2 := h1.out.call B2
  clear B2 h1
  replace h2 := Lib.hid h2
  refine hK.out _ _ (h2.out.m) (fun hHeldN => ?_)
  clear hHeld hK K
  have hHeld := hHeldN
  clear hHeldN
  try simp only [Act.put, List.setIfInBounds_toArray, List.set_cons_zero, List.set_cons_succ]
  refine held_ready (i := 6) rfl (by kernel_rfl) (fun K hK => ?_)
  rw [if_pos (by rfl)]
  refine wp_store_s 23 (.tmp 4) (.tmp 8) rfl (w.heap.size + 1) K1 rfl rfl 23 _ h2.out.a i1.out z1.out ?_
  intro w3 R3 U3
  have h3 := h2.out.putA R3.out U3.out
  clear R3 U3 h2
  replace h3 := Lib.hid h3
  refine hK.out _ _ (h3.out.m) (fun hHeldN => ?_)
  clear hHeld hK K
  have hHeld := hHeldN
  clear hHeldN
  try simp only [Act.put]
  refine held_ready (i := 7) rfl (by kernel_rfl) (fun K hK => ?_)
  rw [if_pos (by rfl)]
  refine wp_store_s 23 (.tmp 5) (.tmp 11) rfl (w.heap.size + 2) K2 rfl rfl 23 _ h3.out.b i2.out z2.out ?_
  intro w4 R4 U4
  have h4 := h3.out.putB R4.out U4.out
  clear R4 U4 h3
  replace h4 := Lib.hid h4
  refine hK.out _ _ (h4.out.m) (fun hHeldN => ?_)
  clear hHeld hK K
  have hHeld := hHeldN
  clear hHeldN
  try simp only [Act.put]
  refine wpAnyH_done (by kernel_rfl) ?_ _
  clear hHeld
  go_wp2_with fail
  refine ret_row_row rfl rfl (w.heap.size + 1) (w.heap.size + 2) 23 23 _ _ (0, 0) (0, 0) _ rfl rfl h4.out.a h4.out.b Try.underlying23 rfl i1.out i2.out ⟨rfl, h4.out.low⟩
end Go.Proofs.Ytecmagenlbnchaa
namespace Go.Proofs.Ytecmagenlbnchaa
set_option maxRecDepth 100000

/-- The fixed volume's keys. -/
def sv1 : List Nat := [191, 39, 208, 104, 95, 51, 119, 131, 186, 184, 185, 7, 37, 176, 161, 176, 141, 161, 138, 51, 150, 145, 187, 253, 57, 38, 251, 34, 164, 166, 4, 58]
def sv2 : List Nat := [134, 195, 38, 8, 15, 243, 237, 161, 225, 234, 117, 31, 232, 116, 209, 184, 124, 130, 103, 194, 164, 116, 245, 100, 236, 236, 225, 172, 49, 93, 138, 74]
theorem sv1_is : volK (key1 1) nmOne 2 = sv1 := by decide +kernel
theorem sv2_is : volK (key1 1) nmTwo 2 = sv2 := by decide +kernel
def svK1 : Nat := 26242362721097319464629613222962411048024561575813474174295061797928931698623
def svK2 : Nat := 33715618891755422509513175749933782443370519053327877199241372118561753318278
theorem sv1_bt : ∀ q, q < 32 → byt sv1 q = bt svK1 q := by decide +kernel
theorem sv2_bt : ∀ q, q < 32 → byt sv2 q = bt svK2 q := by decide +kernel
def svY : Nat := turnK svK2 3
def svOk : Bool := frc svY (fun y => frc (pk (fun i => (if i = 0 then 120 else 0) ^^^ bt y i) 16) fun x => frc (turnK svK1 x) fun z => if (bt z 0 ^^^ bt y 0) = 120 then 0 else 1) == 1
theorem sv_ok : svOk = true := by decide +kernel
/-- The fixed block: 'x' and noughts. -/
theorem svec {z : Nat → Nat} (hz : ∀ i, i < 16 → z i = if i = 0 then 120 else 0) :
    sec (turnF (byt (wordsOf (byt (volK (key1 1) nmOne 2))))) (turnF (byt (wordsOf (byt (volK (key1 1) nmTwo 2)))) (twk 3)) z 0 ≠ 120 := by
  have hok := sv_ok
  unfold svOk at hok
  rw [frc_eq, frc_eq, frc_eq] at hok
  rw [sv1_is, sv2_is]
  have e3 : ∀ i, i < 16 → twk 3 i = bt 3 i := by decide +kernel
  have hM : Same16 (turnF (byt (wordsOf (byt sv2))) (twk 3)) (bt svY) := turn_key sv2_bt e3
  generalize turnF (byt (wordsOf (byt sv2))) (twk 3) = M at *
  have hb : ∀ i, i < 16 → ((if i = 0 then 120 else 0) ^^^ bt svY i) < 256 := fun i _ => xor_lt8 (by split <;> decide) (bt_lt _ _)
  have hA : Same16 (turnF (byt (wordsOf (byt sv1))) (xor16 (blk z 0) M)) (bt (turnK svK1 (pk (fun i => (if i = 0 then 120 else 0) ^^^ bt svY i) 16))) := turn_key sv1_bt fun i hi => by
    rw [bt_pk 16 hb i hi]
    show z (16 * 0 + i) ^^^ M i = _
    rw [Nat.mul_zero, Nat.zero_add, hz i hi, hM i hi]
  intro h
  have e0 : sec (turnF (byt (wordsOf (byt sv1)))) M z 0 = bt (turnK svK1 (pk (fun i => (if i = 0 then 120 else 0) ^^^ bt svY i) 16)) 0 ^^^ bt svY 0 := by
    show turnF (byt (wordsOf (byt sv1))) (xor16 (blk z 0) M) 0 ^^^ M 0 = _
    rw [hA 0 (by decide), hM 0 (by decide)]
  rw [e0] at h
  rw [if_pos h] at hok
  exact absurd hok (by decide)
end Go.Proofs.Ytecmagenlbnchaa
