/-
  The sum of a text, plainly: blocks of 64 pressed one behind the other, the text filled up. No condition; no program in sight.
  A log of texts, plainly: those of one sum, and the first two unlike ones of one sum. No condition; no program in sight.
  octet's width and Put of eight bytes. No condition.
  octet: width, Put and Get of the widths that the sums use. Conditions: numbers of their kind, places in their bounds.
  octet's Put of eight bytes and of four: a new block with the number's bytes. Conditions: the number is of its kind.
-/
import Derived.Test.YtjhfoddhpmmjoaaDoorQTzPlain
import Derived.Test.YtjhfoddhpmmjoaaDoorQTx
import Derived.Test.YtjhfoddhpmmjoaaDoorQShaStart
import Derived.Deep.OwnRows
namespace Go.Proofs.YtjhfoddhpmmjoaaDoor
set_option maxRecDepth 100000

theorem spread_congr {b b' : Nat → Nat} (h : ∀ i, i < 64 → b i = b' i) : ∀ k, spreadTo b k = spreadTo b' k
  | 0 => by
    unfold spreadTo
    refine List.map_congr_left fun i hi => ?_
    have := List.mem_range.1 hi
    unfold be32
    rw [h _ (by omega), h _ (by omega), h _ (by omega), h _ (by omega)]
  | k + 1 => by unfold spreadTo; rw [spread_congr h k]
theorem press_congr (x : List Nat) {b b' : Nat → Nat} (h : ∀ i, i < 64 → b i = b' i) : press x b = press x b' := by
  unfold press spread; rw [spread_congr h]

/-- The words behind k blocks. -/
def hashTo (t : Nat → Nat) : Nat → List Nat
  | 0 => shaH
  | k + 1 => press (hashTo t k) fun i => t (64 * k + i)
theorem hashTo_congr {t t' : Nat → Nat} : ∀ k, (∀ i, i < 64 * k → t i = t' i) → hashTo t k = hashTo t' k
  | 0, _ => rfl
  | k + 1, h => by
    unfold hashTo
    rw [hashTo_congr k fun i hi => h i (by omega)]
    exact press_congr _ fun i hi => h _ (by omega)
/-- The words behind a text's whole blocks. -/
def hashOf (t : List Nat) : List Nat := hashTo (byt t) (t.length / 64)
theorem hashOf_short {t d : List Nat} (h : t.length % 64 + d.length < 64) : hashOf (t ++ d) = hashOf t := by
  unfold hashOf
  have e : (t ++ d).length / 64 = t.length / 64 := by simp; omega
  rw [e]
  refine hashTo_congr _ fun i hi => ?_
  rw [byt_append, if_pos (by omega)]
theorem hashOf_full {t d : List Nat} (h : t.length % 64 + d.length = 64) (B : Nat → Nat) (h1 : ∀ i, i < t.length % 64 → B i = byt t (64 * (t.length / 64) + i)) (h2 : ∀ i, i < d.length → B (t.length % 64 + i) = byt d i) :
    hashOf (t ++ d) = press (hashOf t) B := by
  unfold hashOf
  have e : (t ++ d).length / 64 = t.length / 64 + 1 := by simp; omega
  rw [e, hashTo]
  rw [hashTo_congr (t' := byt t) _ fun i hi => by rw [byt_append, if_pos (by omega)]]
  refine press_congr _ fun i hi => ?_
  rw [byt_append]
  by_cases hl : i < t.length % 64
  · rw [if_pos (by omega), h1 i hl]
  · rw [if_neg (by omega)]
    have := h2 (i - t.length % 64) (by omega)
    rw [show t.length % 64 + (i - t.length % 64) = i by omega] at this
    rw [this]; congr 1; omega

/-- How many zeros fill a text of so many bytes up. -/
def zeros (n : Nat) : Nat := (119 - n % 64) % 64
def filled (t : List Nat) : List Nat := t ++ [128] ++ List.replicate (zeros t.length) 0 ++ beBytes 8 (8 * t.length)
/-- The thirty-two bytes of a text's sum. -/
def sumOf (t : List Nat) : List Nat := (hashOf (filled t)).flatMap (beBytes 4)
theorem length_hashTo (t : Nat → Nat) : ∀ k, (hashTo t k).length = 8
  | 0 => rfl
  | _ + 1 => length_press _ _
theorem length_hashOf (t : List Nat) : (hashOf t).length = 8 := length_hashTo _ _
theorem small_hashTo (t : Nat → Nat) : ∀ k, Small (hashTo t k)
  | 0 => small_shaH
  | _ + 1 => small_press _ _
theorem small_hashOf (t : List Nat) : Small (hashOf t) := small_hashTo _ _
theorem filled_mod (t : List Nat) : (t ++ [128] ++ List.replicate (zeros t.length) 0).length % 64 = 56 := by simp [zeros]; omega

end Go.Proofs.YtjhfoddhpmmjoaaDoor
namespace Go.Proofs.YtjhfoddhpmmjoaaDoor
set_option maxRecDepth 100000

/-- The texts of a sum, in their order. -/
def bucket (T : List (List Nat)) (s : List Nat) : List (List Nat) := T.filter fun t => sumOf t == s
theorem mem_bucket {T : List (List Nat)} {s t : List Nat} : t ∈ bucket T s ↔ t ∈ T ∧ sumOf t = s := by
  unfold bucket
  rw [List.mem_filter, beq_iff_eq]
theorem bucket_snoc (T : List (List Nat)) (b s : List Nat) : bucket (T ++ [b]) s = if sumOf b = s then bucket T s ++ [b] else bucket T s := by
  unfold bucket
  rw [List.filter_append]
  by_cases h : sumOf b = s
  · rw [if_pos h, List.filter_cons, if_pos (beq_iff_eq.2 h)]; rfl
  · rw [if_neg h, List.filter_cons, if_neg (fun e => h (beq_iff_eq.1 e))]; exact List.append_nil _
/-- A text more, if it is not there. -/
def addT (T : List (List Nat)) (b : List Nat) : List (List Nat) := if b ∈ T then T else T ++ [b]
theorem addT_in {T : List (List Nat)} {b : List Nat} (h : b ∈ T) : addT T b = T := by unfold addT; rw [if_pos h]
theorem addT_out {T : List (List Nat)} {b : List Nat} (h : ¬ b ∈ T) : addT T b = T ++ [b] := by unfold addT; rw [if_neg h]
theorem mem_addT {T : List (List Nat)} {b t : List Nat} : t ∈ addT T b ↔ t ∈ T ∨ t = b := by
  by_cases h : b ∈ T
  · rw [addT_in h]
    exact ⟨Or.inl, fun k => k.elim id (fun e => e ▸ h)⟩
  · rw [addT_out h, List.mem_append, List.mem_singleton]
/-- The first text behind pre that has the sum of one ahead of it, and that one. -/
def clashF : List (List Nat) → List (List Nat) → Option (List Nat × List Nat)
  | _, [] => none
  | pre, t :: r => match bucket pre (sumOf t) with
    | k :: _ => some (k, t)
    | [] => clashF (pre ++ [t]) r
def clashOf (T : List (List Nat)) : Option (List Nat × List Nat) := clashF [] T
theorem clashF_snoc : ∀ (r pre : List (List Nat)) (b : List Nat), clashF pre (r ++ [b]) = match clashF pre r with
    | some c => some c
    | none => match bucket (pre ++ r) (sumOf b) with
      | k :: _ => some (k, b)
      | [] => none
  | [], pre, b => by
    rw [List.nil_append, List.append_nil]
    show (match bucket pre (sumOf b) with | k :: _ => some (k, b) | [] => clashF (pre ++ [b]) []) = _
    cases bucket pre (sumOf b) <;> rfl
  | t :: r, pre, b => by
    show (match bucket pre (sumOf t) with | k :: _ => some (k, t) | [] => clashF (pre ++ [t]) (r ++ [b])) = match (match bucket pre (sumOf t) with | k :: _ => some (k, t) | [] => clashF (pre ++ [t]) r) with
      | some c => some c
      | none => match bucket (pre ++ (t :: r)) (sumOf b) with
        | k :: _ => some (k, b)
        | [] => none
    cases bucket pre (sumOf t) with
    | cons k q => rfl
    | nil =>
      show clashF (pre ++ [t]) (r ++ [b]) = _
      rw [clashF_snoc r (pre ++ [t]) b, List.append_assoc]
      rfl
theorem clashOf_snoc (T : List (List Nat)) (b : List Nat) : clashOf (T ++ [b]) = match clashOf T with
    | some c => some c
    | none => match bucket T (sumOf b) with
      | k :: _ => some (k, b)
      | [] => none := by
  unfold clashOf
  rw [clashF_snoc]
  rfl
/-- What a clash is. -/
theorem clashF_spec : ∀ (r pre : List (List Nat)) (p q : List Nat), (pre ++ r).Nodup → clashF pre r = some (p, q) → p ∈ pre ++ r ∧ q ∈ pre ++ r ∧ p ≠ q ∧ sumOf p = sumOf q
  | [], pre, p, q, _, h => by simp [clashF] at h
  | t :: r, pre, p, q, hn, h => by
    have e : pre ++ t :: r = pre ++ [t] ++ r := by simp
    change (match bucket pre (sumOf t) with | k :: _ => some (k, t) | [] => clashF (pre ++ [t]) r) = some (p, q) at h
    cases hb : bucket pre (sumOf t) with
    | cons k l =>
      rw [hb] at h
      obtain ⟨rfl, rfl⟩ : k = p ∧ t = q := by simpa using h
      have hk : k ∈ bucket pre (sumOf t) := by rw [hb]; exact List.mem_cons_self
      obtain ⟨h1, h2⟩ := mem_bucket.1 hk
      refine ⟨List.mem_append_left _ h1, List.mem_append_right _ List.mem_cons_self, ?_, h2⟩
      rintro rfl
      exact absurd rfl ((List.nodup_append.1 hn).2.2 k h1 k List.mem_cons_self)
    | nil =>
      rw [hb] at h
      rw [e] at hn ⊢
      exact clashF_spec r (pre ++ [t]) p q hn h
theorem clashOf_spec {T : List (List Nat)} {p q : List Nat} (hn : T.Nodup) (h : clashOf T = some (p, q)) : p ∈ T ∧ q ∈ T ∧ p ≠ q ∧ sumOf p = sumOf q := clashF_spec T [] p q hn h
/-- Without a clash each sum has one text. -/
theorem clashF_none : ∀ (r pre : List (List Nat)), (∀ a ∈ pre, ∀ b ∈ pre, sumOf a = sumOf b → a = b) → clashF pre r = none → ∀ a ∈ pre ++ r, ∀ b ∈ pre ++ r, sumOf a = sumOf b → a = b
  | [], pre, hp, _ => by rw [List.append_nil]; exact hp
  | t :: r, pre, hp, h => by
    have e : pre ++ t :: r = pre ++ [t] ++ r := by simp
    change (match bucket pre (sumOf t) with | k :: _ => some (k, t) | [] => clashF (pre ++ [t]) r) = none at h
    cases hb : bucket pre (sumOf t) with
    | cons k l => rw [hb] at h; simp at h
    | nil =>
      rw [hb] at h
      rw [e]
      have hno : ∀ a ∈ pre, sumOf a ≠ sumOf t := fun a ha he => by
        have : a ∈ bucket pre (sumOf t) := mem_bucket.2 ⟨ha, he⟩
        rw [hb] at this
        simp at this
      refine clashF_none r (pre ++ [t]) (fun a ha b hb2 he => ?_) h
      rcases List.mem_append.1 ha with ha | ha <;> rcases List.mem_append.1 hb2 with hb2 | hb2
      · exact hp a ha b hb2 he
      · rw [List.mem_singleton.1 hb2] at he; exact absurd he (hno a ha)
      · rw [List.mem_singleton.1 ha] at he; exact absurd he.symm (hno b hb2)
      · rw [List.mem_singleton.1 ha, List.mem_singleton.1 hb2]
theorem clashOf_none {T : List (List Nat)} (h : clashOf T = none) : ∀ a ∈ T, ∀ b ∈ T, sumOf a = sumOf b → a = b := clashF_none T [] (by simp) h
theorem nodup_addT {T : List (List Nat)} (h : T.Nodup) (b : List Nat) : (addT T b).Nodup := by
  by_cases hb : b ∈ T
  · rw [addT_in hb]; exact h
  · rw [addT_out hb, List.nodup_append]
    exact ⟨h, by simp, fun a ha c hc => by rw [List.mem_singleton.1 hc]; rintro rfl; exact hb ha⟩
end Go.Proofs.YtjhfoddhpmmjoaaDoor
namespace Go.Proofs.YtjhfoddhpmmjoaaDoor
set_option maxRecDepth 100000
open Go.RowKit

set_option maxRecDepth 100000 in
theorem wid64 (w : World) : Calls Tryd.prog 99 #[] w fun e w' => e = .returned (.int .i64 8) ∧ w = w' := by
  go_enter Tryd.func99, Tryd.ntmps99
  go_wp2_with fail
  refine wp_loop_rounds 9 ?_
  rw [rounds_succ]
  go_wp2_with fail
  rw [rounds_succ]
  go_wp2_with fail
  rw [rounds_succ]
  go_wp2_with fail
  rw [rounds_succ]
  go_wp2_with fail
  rw [rounds_succ]
  go_wp2_with fail
  rw [rounds_succ]
  go_wp2_with fail
  rw [rounds_succ]
  go_wp2_with fail
  rw [rounds_succ]
  go_wp2_with fail
  rw [rounds_succ]
  go_wp2_with fail
  go_ret
  exact ⟨rfl, rfl⟩
/-- The first k bytes of a number, zeros behind. -/
def putTo (n v k : Nat) : List Nat := (List.range n).map fun i => if i < k then v / 256 ^ (n - 1 - i) % 256 else 0
theorem putTo_full (n v : Nat) : putTo n v n = beBytes n v := by
  unfold putTo beBytes
  exact List.map_congr_left fun i hi => by rw [if_pos (List.mem_range.1 hi)]
theorem putTo_set (n v k : Nat) : (putTo n v k).set k (v / 256 ^ (n - 1 - k) % 256) = putTo n v (k + 1) := by
  apply List.ext_getElem
  · simp [putTo]
  · intro j h1 h2
    simp only [List.getElem_set, putTo, List.getElem_map, List.getElem_range]
    by_cases hj : k = j
    · subst hj; simp
    · rw [if_neg hj]
      by_cases h3 : j < k
      · rw [if_pos h3, if_pos (by omega)]
      · rw [if_neg h3, if_neg (by omega)]
theorem putTo_get (n v : Nat) {k : Nat} (hk : k < n) : (putTo n v k)[k]? = some 0 := by simp [putTo, hk]
theorem put_digit (n v k : Nat) : ((v : Int) / 2 ^ (8 * (n - 1 - k)) % 256) = ((v / 256 ^ (n - 1 - k) % 256 : Nat) : Int) := by
  have e : (256 : Nat) ^ (n - 1 - k) = 2 ^ (8 * (n - 1 - k)) := by rw [Nat.pow_mul]
  rw [e]; simp
set_option maxRecDepth 100000 in
theorem put64 (w : World) (v : Nat) :
    Calls Tryd.prog 94 #[.int .u64 (v : Int)] w fun e w' => e = .returned (.slice (some ⟨w.heap.size, 0, none⟩) 8 8) ∧ RowB w' w.heap.size 5 (beBytes 8 v) ∧ Below w.heap.size w w' := by
  have hmk : ∀ w, (Instr.makeSlice 85 (.int .i64 8) (.int .i64 8)).run Tryd.prog w = .ok (.slice (some ⟨w.heap.size, 0, none⟩) 8 8) (w.alloc (.cells (u8s (List.replicate 8 0)) 5)) := fun _ => by kernel_rfl
  go_enter Tryd.func94, Tryd.ntmps94
  go_wp2_with (go_at_call 99; refine (wid64 _).mono ?_; rintro e w' ⟨rfl, rfl⟩)
  go_loopw [10] (fun i wr => ∃ k : Nat, k ≤ 8 ∧ i = .int .i64 k ∧ RowB wr w.heap.size 5 (putTo 8 v k) ∧ Below w.heap.size w wr) (fun i _ => 8 - (intOf i).toNat)
  case atStart =>
    refine ⟨0, Nat.zero_le _, rfl, ?_, (Below.refl _ _).alloc (Nat.le_refl _) _⟩
    exact heap_alloc_new _ _
  case round =>
    obtain ⟨k, hk, rfl, hrow, hB⟩ := hrel
    by_cases hlt : k < 8
    · have cw := hrow.cell (putTo_get 8 v hlt)
      have fw := hrow.frozen k
      have nx := hrow.set k (v / 256 ^ (8 - 1 - k) % 256)
      rw [putTo_set] at nx
      have nB := hB.setCell (p := ⟨w.heap.size, k, none⟩) (Nat.le_refl _) (.int .u8 ((v / 256 ^ (8 - 1 - k) % 256 : Nat) : Int))
      replace nx := Lib.hid nx
      replace nB := Lib.hid nB
      replace hrow := Lib.hid hrow
      replace hB := Lib.hid hB
      go_wp2_with fail
      go_roundw
      case rel =>
        refine ⟨k + 1, by omega, by go_num, ?_, ?_⟩
        · rw [put_digit 8 v k]; exact nx.out
        · rw [put_digit 8 v k]; exact nB.out
      case measure => simp [intOf]; omega
    · obtain rfl : k = 8 := by omega
      simp only [show ((8 : Nat) : Int) = 8 from rfl]
      replace hrow := Lib.hid hrow
      replace hB := Lib.hid hB
      go_wp2_with fail
      go_ret
      exact ⟨rfl, by rw [← putTo_full]; exact hrow.out, hB.out⟩

end Go.Proofs.YtjhfoddhpmmjoaaDoor
namespace Go.Proofs.YtjhfoddhpmmjoaaDoor
set_option maxRecDepth 100000
open Go.RowKit

set_option maxRecDepth 100000 in
theorem wid32 (w : World) : Calls Tryd.prog 100 #[] w fun e w' => e = .returned (.int .i64 4) ∧ w = w' := by
  go_enter Tryd.func100, Tryd.ntmps100
  go_wp2_with fail
  refine wp_loop_rounds 5 ?_
  rw [rounds_succ]
  go_wp2_with fail
  rw [rounds_succ]
  go_wp2_with fail
  rw [rounds_succ]
  go_wp2_with fail
  rw [rounds_succ]
  go_wp2_with fail
  rw [rounds_succ]
  go_wp2_with fail
  go_ret
  exact ⟨rfl, rfl⟩

/-- The number of the first j of four bytes. -/
def beTo (s : Nat → Nat) (k : Nat) : Nat → Nat
  | 0 => 0
  | j + 1 => beTo s k j * 256 + s (k + j)
theorem beTo_lt {s : Nat → Nat} (hs : ∀ i, s i < 256) (k : Nat) : ∀ j, j ≤ 4 → beTo s k j < 256 ^ j
  | 0, _ => by simp [beTo]
  | j + 1, h => by
    have := beTo_lt hs k j (by omega)
    have h2 := hs (k + j)
    simp only [beTo, Nat.pow_succ]
    omega
theorem beTo_four (s : Nat → Nat) (k : Nat) : beTo s k 4 = be32 s k := by
  simp [beTo, be32]

theorem or_byte (v c : Nat) (hv : v < 16777216) (hc : c < 256) : bits .or .u64 ((v : Int) * 256) (c : Int) = ((v * 256 + c : Nat) : Int) := by
  have e : ((v : Int) * 256) = ((v * 256 : Nat) : Int) := by simp
  rw [e, u64_or_nat _ _ (by omega) (by omega), nat_join 8 _ _ (by omega) (by simpa using hc)]

set_option maxRecDepth 100000 in
/-- Get of four bytes: the number of them. -/
theorem get32 (w : World) (b o len cap k : Nat) (s : Nat → Nat) (hk : k + 4 ≤ len) (hcap : len ≤ cap) (hlen : cap ≤ 4096) (hs : ∀ i, s i < 256) (hc : ∀ i, i < len → w.cell? ⟨b, o + i, none⟩ = some (.int .u8 (s i))) :
    Calls Tryd.prog 96 #[.slice (some ⟨b, o, none⟩) len cap, .int .i64 k] w fun e w' => e = .returned (.tuple #[.int .u32 (be32 s k), .int .i64 0]) ∧ w = w' := by
  replace hc := Lib.hid hc
  replace hs := Lib.hid hs
  go_enter Tryd.func96, Tryd.ntmps96
  go_wp2_with (go_at_call 100; refine (wid32 _).mono ?_; rintro e w' ⟨rfl, rfl⟩)
  go_loop [7, 34] (fun v i => ∃ j : Nat, j ≤ 4 ∧ v = .int .u64 (beTo s k j) ∧ i = .int .i64 j) (fun _ i => 4 - (intOf i).toNat)
  case atStart => exact ⟨0, Nat.zero_le _, rfl, rfl⟩
  case round =>
    obtain ⟨j, hj, rfl, rfl⟩ := hrel
    by_cases hlt : j < 4
    · have c := hc.out (k + j) (by omega)
      rw [← Nat.add_assoc] at c
      have hv := beTo_lt hs.out k j hj
      have hv2 : beTo s k j < 16777216 := Nat.lt_of_lt_of_le hv (by
        have : 256 ^ j ≤ 256 ^ 3 := Nat.pow_le_pow_right (by omega) (by omega)
        exact this)
      have ho := or_byte (beTo s k j) (s (k + j)) hv2 (hs.out _)
      have es := Lib.hid (show beTo s k (j + 1) = beTo s k j * 256 + s (k + j) from rfl)
      have hb := hs.out (k + j)
      generalize s (k + j) = cb at c ho es hb
      generalize beTo s k j = v at ho es hv2
      clear hv
      go_wp2_with fail
      go_round
      case rel => exact ⟨j + 1, by omega, by rw [es.out]; go_num, by go_num⟩
      case measure => simp [intOf]; omega
    · obtain rfl : j = 4 := by omega
      have hv := beTo_lt hs.out k 4 (Nat.le_refl _)
      have hv2 : beTo s k 4 < 4294967296 := hv
      have es := Lib.hid (beTo_four s k)
      clear hv
      generalize beTo s k 4 = v at es hv2
      go_wp2_with fail
      go_ret2
      rw [← es.out]
      exact ⟨by simp, rfl⟩

end Go.Proofs.YtjhfoddhpmmjoaaDoor
namespace Go.Proofs.YtjhfoddhpmmjoaaDoor
set_option maxRecDepth 100000
open Go.RowKit

set_option maxRecDepth 100000 in
theorem put32 (w : World) (v : Nat) (hv : v < 4294967296) :
    Calls Tryd.prog 95 #[.int .u32 (v : Int)] w fun e w' => e = .returned (.slice (some ⟨w.heap.size, 0, none⟩) 4 4) ∧ RowB w' w.heap.size 5 (beBytes 4 v) ∧ Below w.heap.size w w' := by
  have hmk : ∀ w, (Instr.makeSlice 85 (.int .i64 4) (.int .i64 4)).run Tryd.prog w = .ok (.slice (some ⟨w.heap.size, 0, none⟩) 4 4) (w.alloc (.cells (u8s (List.replicate 4 0)) 5)) := fun _ => by kernel_rfl
  go_enter Tryd.func95, Tryd.ntmps95
  go_wp2_with (go_at_call 100; refine (wid32 _).mono ?_; rintro e w' ⟨rfl, rfl⟩)
  go_loopw [10] (fun i wr => ∃ k : Nat, k ≤ 4 ∧ i = .int .i64 k ∧ RowB wr w.heap.size 5 (putTo 4 v k) ∧ Below w.heap.size w wr) (fun i _ => 4 - (intOf i).toNat)
  case atStart =>
    refine ⟨0, Nat.zero_le _, rfl, ?_, (Below.refl _ _).alloc (Nat.le_refl _) _⟩
    exact heap_alloc_new _ _
  case round =>
    obtain ⟨k, hk, rfl, hrow, hB⟩ := hrel
    by_cases hlt : k < 4
    · have cw := hrow.cell (putTo_get 4 v hlt)
      have fw := hrow.frozen k
      have nx := hrow.set k (v / 256 ^ (4 - 1 - k) % 256)
      rw [putTo_set] at nx
      have nB := hB.setCell (p := ⟨w.heap.size, k, none⟩) (Nat.le_refl _) (.int .u8 ((v / 256 ^ (4 - 1 - k) % 256 : Nat) : Int))
      replace nx := Lib.hid nx
      replace nB := Lib.hid nB
      replace hrow := Lib.hid hrow
      replace hB := Lib.hid hB
      go_wp2_with fail
      go_roundw
      case rel =>
        refine ⟨k + 1, by omega, by go_num, ?_, ?_⟩
        · rw [put_digit 4 v k]; exact nx.out
        · rw [put_digit 4 v k]; exact nB.out
      case measure => simp [intOf]; omega
    · obtain rfl : k = 4 := by omega
      simp only [show ((4 : Nat) : Int) = 4 from rfl]
      replace hrow := Lib.hid hrow
      replace hB := Lib.hid hB
      go_wp2_with fail
      go_ret
      exact ⟨rfl, by rw [← putTo_full]; exact hrow.out, hB.out⟩
end Go.Proofs.YtjhfoddhpmmjoaaDoor
