/-
  Words wrapped, plainly: six rounds of a cipher over words of eight bytes, and back. No condition; no program in sight.
  Wraps of fixed words reckoned fast. No condition; no program in sight.
  xts: what is turned is turned back; what hangs on what; a fixed call's blocks, reckoned. No condition; no program in sight.
-/
import Derived.Test.YtecmagenlbnchaaQAesVec
import Derived.Test.YtecmagenlbnchaaQOctetPut
import Derived.Test.YtecmagenlbnchaaQGfRefPlain
namespace Go.Proofs.Ytecmagenlbnchaa
set_option maxRecDepth 100000

/-- The first eight bytes and word i. -/
def wblk (S : Nat → Nat) (i : Nat) : Nat → Nat := fun j => if j < 8 then S j else S (8 * i + (j - 8))
def wput (S : Nat → Nat) (i : Nat) (x : Nat → Nat) : Nat → Nat := fun j => if j < 8 then x j else if 8 * i ≤ j ∧ j < 8 * i + 8 then x (j - 8 * i + 8) else S j
def wmix (x : Nat → Nat) (m : Nat) : Nat → Nat := fun j => if j < 8 then x j ^^^ (m / 256 ^ (7 - j) % 256) else x j
def wstep (W : Nat → Nat) (S : Nat → Nat) (i m : Nat) : Nat → Nat := wput S i (wmix (turnF W (wblk S i)) m)
def ustep (W : Nat → Nat) (S : Nat → Nat) (i m : Nat) : Nat → Nat := wput S i (backF W (wmix (wblk S i) m))
theorem wstep_def (W S : Nat → Nat) (i m : Nat) : wstep W S i m = wput S i (wmix (turnF W (wblk S i)) m) := rfl
theorem ustep_def (W S : Nat → Nat) (i m : Nat) : ustep W S i m = wput S i (backF W (wmix (wblk S i) m)) := rfl
theorem wblk_wput (S x : Nat → Nat) {i : Nat} (hi : 1 ≤ i) : Same16 (wblk (wput S i x) i) x := fun j hj => by
  unfold wblk wput
  by_cases h : j < 8
  · simp only [if_pos h]
  · rw [if_neg h, if_neg (by omega), if_pos (by omega)]
    congr 1; omega
theorem wput_same {S x y : Nat → Nat} {i : Nat} (h : Same16 x y) : wput S i x = wput S i y := by
  funext j
  unfold wput
  split
  · exact h j (by omega)
  · split
    · exact h _ (by omega)
    · rfl
theorem wput_back (S x : Nat → Nat) {i : Nat} (_hi : 1 ≤ i) {y : Nat → Nat} (hy : Same16 y (wblk S i)) : wput (wput S i x) i y = S := by
  funext j
  unfold wput
  by_cases h : j < 8
  · rw [if_pos h, hy j (by omega)]; unfold wblk; rw [if_pos h]
  · rw [if_neg h]
    by_cases h2 : 8 * i ≤ j ∧ j < 8 * i + 8
    · rw [if_pos h2, hy _ (by omega)]; unfold wblk; rw [if_neg (by omega)]; congr 1; omega
    · rw [if_neg h2, if_neg h, if_neg h2]
theorem wmix_wmix (x : Nat → Nat) (m : Nat) : wmix (wmix x m) m = x := by
  funext j
  unfold wmix
  by_cases h : j < 8
  · simp only [if_pos h, Nat.xor_assoc, Nat.xor_self, Nat.xor_zero]
  · simp only [if_neg h]
theorem wmix_same {x y : Nat → Nat} (h : Same16 x y) (m : Nat) : Same16 (wmix x m) (wmix y m) := fun j hj => by unfold wmix; rw [h j hj]
theorem wmix_lt {x : Nat → Nat} (h : Bytes16 x) (m : Nat) : Bytes16 (wmix x m) := fun j hj => by
  unfold wmix
  split
  · exact xor_lt8 (h j hj) (Nat.mod_lt _ (by decide))
  · exact h j hj
theorem wblk_lt {S : Nat → Nat} (h : ∀ j, S j < 256) (i : Nat) : Bytes16 (wblk S i) := fun j _ => by unfold wblk; split <;> exact h _
theorem wput_lt {S x : Nat → Nat} (h : ∀ j, S j < 256) (hx : Bytes16 x) (i : Nat) : ∀ j, wput S i x j < 256 := fun j => by
  unfold wput
  split
  · exact hx j (by omega)
  · split
    · exact hx _ (by omega)
    · exact h j
theorem ustep_wstep {W S : Nat → Nat} (hW : ∀ i, W i < 256) (hS : ∀ j, S j < 256) {i : Nat} (hi : 1 ≤ i) (m : Nat) : ustep W (wstep W S i m) i m = S := by
  unfold ustep
  have h1 : Same16 (wmix (wblk (wstep W S i m) i) m) (turnF W (wblk S i)) := by
    have h := wmix_same (wblk_wput S (wmix (turnF W (wblk S i)) m) hi) m
    rw [wmix_wmix] at h
    exact h
  have h2 := (same_back (W := W) h1).trans (back_turn hW (wblk_lt hS i))
  exact wput_back S _ hi h2
theorem wstep_ustep {W S : Nat → Nat} (hW : ∀ i, W i < 256) (hS : ∀ j, S j < 256) {i : Nat} (hi : 1 ≤ i) (m : Nat) : wstep W (ustep W S i m) i m = S := by
  unfold wstep
  have h1 := wblk_wput S (backF W (wmix (wblk S i) m)) hi
  have h2 : Same16 (turnF W (wblk (ustep W S i m) i)) (wmix (wblk S i) m) := (same_turn (W := W) h1).trans (turn_back hW (wmix_lt (wblk_lt hS i) m))
  have h3 := wmix_same h2 m
  rw [wmix_wmix] at h3
  exact wput_back S _ hi h3
theorem wstep_lt {W S : Nat → Nat} (hW : ∀ i, W i < 256) (hS : ∀ j, S j < 256) (i m : Nat) : ∀ j, wstep W S i m j < 256 :=
  wput_lt hS (wmix_lt (bytes_turn hW (wblk_lt hS i)) m) i
theorem ustep_lt {W S : Nat → Nat} (hW : ∀ i, W i < 256) (hS : ∀ j, S j < 256) (i m : Nat) : ∀ j, ustep W S i m j < 256 :=
  wput_lt hS (bytes_back hW (wmix_lt (wblk_lt hS i) m)) i
/-- k steps of n words. -/
def wrapTo (W S : Nat → Nat) (n : Nat) : Nat → Nat → Nat
  | 0 => S
  | k + 1 => wstep W (wrapTo W S n k) (k % n + 1) (k + 1)
/-- The steps from s on down to k. -/
def unTo (W S : Nat → Nat) (n s : Nat) : Nat → Nat → Nat
  | 0 => S
  | k + 1 => ustep W (unTo W S n s k) ((s - 1 - k) % n + 1) (s - k)
theorem wrapTo_lt {W S : Nat → Nat} (hW : ∀ i, W i < 256) (hS : ∀ j, S j < 256) (n : Nat) : ∀ k j, wrapTo W S n k j < 256
  | 0, j => hS j
  | k + 1, j => wstep_lt hW (wrapTo_lt hW hS n k) _ _ j
theorem unTo_lt {W S : Nat → Nat} (hW : ∀ i, W i < 256) (hS : ∀ j, S j < 256) (n s : Nat) : ∀ k j, unTo W S n s k j < 256
  | 0, j => hS j
  | k + 1, j => ustep_lt hW (unTo_lt hW hS n s k) _ _ j
theorem wrapTo_succ (W S : Nat → Nat) (n k : Nat) : wrapTo W S n (k + 1) = wstep W (wrapTo W S n k) (k % n + 1) (k + 1) := rfl
theorem unTo_succ (W S : Nat → Nat) (n s k : Nat) : unTo W S n s (k + 1) = ustep W (unTo W S n s k) ((s - 1 - k) % n + 1) (s - k) := rfl
theorem un_wrap {W S : Nat → Nat} (hW : ∀ i, W i < 256) (hS : ∀ j, S j < 256) (n s : Nat) : ∀ k, k ≤ s → unTo W (wrapTo W S n s) n s k = wrapTo W S n (s - k)
  | 0, _ => rfl
  | k + 1, hk => by
    have ih := un_wrap hW hS n s k (by omega)
    obtain ⟨j, hj⟩ : ∃ j, s = k + 1 + j := ⟨s - (k + 1), by omega⟩
    rw [unTo_succ, ih, show s - k = j + 1 by omega, show s - 1 - k = j by omega, show s - (k + 1) = j by omega, wrapTo_succ]
    exact ustep_wstep hW (wrapTo_lt hW hS n _) (by omega) _
theorem wrap_un {W S : Nat → Nat} (hW : ∀ i, W i < 256) (hS : ∀ j, S j < 256) (n s : Nat) : ∀ k, k ≤ s → wrapTo W (unTo W S n s s) n k = unTo W S n s (s - k)
  | 0, _ => rfl
  | k + 1, hk => by
    have ih := wrap_un hW hS n s k (by omega)
    obtain ⟨j, hj⟩ : ∃ j, s = k + 1 + j := ⟨s - (k + 1), by omega⟩
    rw [wrapTo_succ, ih, show s - k = j + 1 by omega, show s - (k + 1) = j by omega, unTo_succ, show s - 1 - j = k by omega, show s - j = k + 1 by omega]
    exact wstep_ustep hW (unTo_lt hW hS n s _) (by omega) _

/-- The text with eight bytes 166 ahead. -/
def markF (t : List Nat) : Nat → Nat := byt (List.replicate 8 166 ++ t)
def wrapL (W : Nat → Nat) (t : List Nat) : List Nat := bytesOf (wrapTo W (markF t) (t.length / 8) (6 * (t.length / 8))) (t.length + 8)
def unL (W : Nat → Nat) (t : List Nat) : List Nat := bytesOf (unTo W (byt t) (t.length / 8 - 1) (6 * (t.length / 8 - 1)) (6 * (t.length / 8 - 1))) t.length
theorem length_wrapL (W : Nat → Nat) (t : List Nat) : (wrapL W t).length = t.length + 8 := by simp [wrapL]
theorem length_unL (W : Nat → Nat) (t : List Nat) : (unL W t).length = t.length := by simp [unL]
theorem byt_past {t : List Nat} {i : Nat} (h : t.length ≤ i) : byt t i = 0 := by simp [byt, List.getD, h]
/-- A step looks at n words only. -/
theorem wstep_past {W S : Nat → Nat} {i m : Nat} (j : Nat) (h8 : 8 ≤ j) (h : 8 * i + 8 ≤ j) : wstep W S i m j = S j := by
  unfold wstep wput
  rw [if_neg (by omega), if_neg (by omega)]
theorem ustep_past {W S : Nat → Nat} {i m : Nat} (j : Nat) (h8 : 8 ≤ j) (h : 8 * i + 8 ≤ j) : ustep W S i m j = S j := by
  unfold ustep wput
  rw [if_neg (by omega), if_neg (by omega)]
theorem wrapTo_past {W S : Nat → Nat} {n : Nat} (hn : 0 < n) (j : Nat) (h : 8 * n + 8 ≤ j) : ∀ k, wrapTo W S n k j = S j
  | 0 => rfl
  | k + 1 => by
    unfold wrapTo
    have := Nat.mod_lt k hn
    rw [wstep_past j (by omega) (by omega)]
    exact wrapTo_past hn j h k
theorem unTo_past {W S : Nat → Nat} {n s : Nat} (hn : 0 < n) (j : Nat) (h : 8 * n + 8 ≤ j) : ∀ k, unTo W S n s k j = S j
  | 0 => rfl
  | k + 1 => by
    unfold unTo
    have := Nat.mod_lt (s - 1 - k) hn
    rw [ustep_past j (by omega) (by omega)]
    exact unTo_past hn j h k
theorem byt_mk {F : Nat → Nat} {len : Nat} (h : ∀ j, len ≤ j → F j = 0) : byt (bytesOf F len) = F := by
  funext j
  by_cases hj : j < len
  · exact byt_bytesOf F hj
  · rw [byt_past (by simp; omega), h j (by omega)]
theorem mark_lt {t : List Nat} (hs : ∀ x ∈ t, x < 256) : ∀ j, markF t j < 256 := fun j => byt_lt (fun x hx => by
  rcases List.mem_append.1 hx with hx | hx
  · rw [(List.mem_replicate.1 hx).2]; decide
  · exact hs x hx) j
theorem bytesOf_self {t : List Nat} {n : Nat} (h : t.length = n) : bytesOf (byt t) n = t := by rw [← h]; exact bytesOf_byt t
/-- What is wrapped is unwrapped as it was. -/
theorem unL_wrapL {W : Nat → Nat} (hW : ∀ i, W i < 256) {t : List Nat} (hs : ∀ x ∈ t, x < 256) (h8 : t.length % 8 = 0) (h0 : 0 < t.length) : unL W (wrapL W t) = List.replicate 8 166 ++ t := by
  unfold unL
  rw [length_wrapL, show (t.length + 8) / 8 - 1 = t.length / 8 by omega]
  have e : byt (wrapL W t) = wrapTo W (markF t) (t.length / 8) (6 * (t.length / 8)) := byt_mk fun j hj => by
    rw [wrapTo_past (by omega) j (by omega)]
    exact byt_past (by simp; omega)
  rw [e, un_wrap hW (mark_lt hs) _ _ _ (Nat.le_refl _), Nat.sub_self]
  exact bytesOf_self (by rw [List.length_append, List.length_replicate, Nat.add_comm])
/-- What unwraps is the wrap of what comes. -/
theorem wrapL_unL {W : Nat → Nat} (hW : ∀ i, W i < 256) {t p : List Nat} (hs : ∀ x ∈ t, x < 256) (h8 : t.length % 8 = 0) (h16 : 16 ≤ t.length) (h : unL W t = List.replicate 8 166 ++ p) : wrapL W p = t := by
  have hl : t.length = p.length + 8 := by
    have := congrArg List.length h
    rw [length_unL] at this
    simp at this
    omega
  have e : markF p = unTo W (byt t) (p.length / 8) (6 * (p.length / 8)) (6 * (p.length / 8)) := by
    unfold markF
    rw [← h]
    unfold unL
    rw [show t.length / 8 - 1 = p.length / 8 by omega]
    exact byt_mk fun j hj => by
      rw [unTo_past (by omega) j (by omega)]
      exact byt_past hj
  unfold wrapL
  rw [e, wrap_un hW (byt_lt hs) _ _ _ (Nat.le_refl _), Nat.sub_self]
  exact bytesOf_self hl
theorem wrapL_inj {W : Nat → Nat} (hW : ∀ i, W i < 256) {a b : List Nat} (ha : ∀ x ∈ a, x < 256) (hb : ∀ x ∈ b, x < 256) (hl : a.length = b.length) (h8 : a.length % 8 = 0) (h0 : 0 < a.length) (h : wrapL W a = wrapL W b) : a = b := by
  have h1 := unL_wrapL hW ha h8 h0
  have h2 := unL_wrapL hW hb (by omega) (by omega)
  rw [h, h2] at h1
  exact (List.append_cancel_left h1).symm
end Go.Proofs.Ytecmagenlbnchaa
namespace Go.Proofs.Ytecmagenlbnchaa
set_option maxRecDepth 100000

def UNB : Nat := 15785769749828884342349381641981096363179738000380205650940338083111619982568718420166261191398703005748170232611805704157196303061330872280026969925224128193193768962594508714770967646139604422718174787315048227180018877623049221087186576642191304514338137614235628241783007805847129270530950856841486400764657112140097236091222567730363620332611309375046737430203438830593833719428588466121688739068564421474273450162064709239629809347626728710072303178617319436726577534667237755444692000788692193415136619289353224918429728194544458916874716857284226411602766869706570927007876872095880586785662942963508062062930
theorem unb_bt {a : Nat} (ha : a < 256) : bt UNB a = gunb a := by
  have h : (List.range 256).all (fun x => bt UNB (gbox x) == x) = true := by decide +kernel
  obtain ⟨h1, h2⟩ := unb_lt_box a ha
  have h3 := eq_of_beq (of_all h h1)
  rwa [h2] at h3
def midQ (W r s : Nat) : Nat := frc (pk (fun i => bt s i ^^^ bt W (16 * r + i)) 16) fun a => frc (if r < 14 then pk (colsF 14 11 13 9 (bt a)) 16 else a) fun c => pk (fun i => bt UNB (bt c ((i + 12 * (i % 4)) % 16))) 16
theorem midQ_eq (W r s : Nat) : Same16 (bt (midQ W r s)) (midB r (addF (bt W) r (bt s))) := by
  unfold midQ
  rw [frc_eq, frc_eq]
  have h1 : Same16 (bt (pk (fun i => bt s i ^^^ bt W (16 * r + i)) 16)) (addF (bt W) r (bt s)) := fun i hi => by
    rw [bt_pk 16 (fun _ _ => xor_lt8 (bt_lt _ _) (bt_lt _ _)) i hi]; rfl
  generalize pk (fun i => bt s i ^^^ bt W (16 * r + i)) 16 = a at *
  have h2 : Same16 (bt (if r < 14 then pk (colsF 14 11 13 9 (bt a)) 16 else a)) (if r < 14 then colsF 14 11 13 9 (addF (bt W) r (bt s)) else addF (bt W) r (bt s)) := by
    by_cases h : r < 14
    · rw [if_pos h, if_pos h]
      have hb : Bytes16 (colsF 14 11 13 9 (bt a)) := Bytes16.cols (x := bt a) (fun _ _ => bt_lt _ _) (by decide) (by decide) (by decide) (by decide)
      intro i hi
      rw [bt_pk 16 hb i hi]
      exact h1.cols 14 11 13 9 i hi
    · rw [if_neg h, if_neg h]; exact h1
  generalize (if r < 14 then pk (colsF 14 11 13 9 (bt a)) 16 else a) = c at *
  intro i hi
  rw [bt_pk 16 (fun _ _ => bt_lt _ _) i hi, unb_bt (bt_lt _ _)]
  unfold midB
  exact h2.rowsB gunb i hi
def backP (W x : Nat) : Nat → Nat
  | 0 => x
  | k + 1 => frc (backP W x k) fun s => midQ W (14 - k) s
theorem backP_eq (W x : Nat) : ∀ k, Same16 (bt (backP W x k)) (backTo (bt W) (bt x) k)
  | 0 => Same16.refl _
  | k + 1 => by
    have ih := backP_eq W x k
    unfold backP
    rw [frc_eq, backTo_succ]
    exact (midQ_eq W (14 - k) _).trans ((ih.add (bt W) (14 - k)).midB (14 - k))
def backN (W x : Nat) : Nat := frc (backP W x 14) fun s => pk (fun i => bt s i ^^^ bt W i) 16
theorem backN_eq (W x : Nat) : Same16 (bt (backN W x)) (backF (bt W) (bt x)) := fun i hi => by
  unfold backN
  rw [frc_eq, bt_pk 16 (fun _ _ => xor_lt8 (bt_lt _ _) (bt_lt _ _)) i hi]
  unfold backF addF
  rw [backP_eq W x 14 i hi, Nat.mul_zero, Nat.zero_add]
theorem backTo_words {W W' x : Nat → Nat} (h : ∀ q, q < 240 → W q = W' q) : ∀ k, k ≤ 14 → Same16 (backTo W x k) (backTo W' x k)
  | 0, _ => Same16.refl _
  | k + 1, hk => by
    have ih := backTo_words (x := x) h k (by omega)
    rw [backTo_succ, backTo_succ]
    refine Same16.midB (fun i hi => ?_) (14 - k)
    show backTo W x k i ^^^ W (16 * (14 - k) + i) = backTo W' x k i ^^^ W' (16 * (14 - k) + i)
    rw [h _ (by omega), ih i hi]
theorem backF_words {W W' x : Nat → Nat} (h : ∀ q, q < 240 → W q = W' q) : Same16 (backF W x) (backF W' x) := fun i hi => by
  show backTo W x 14 i ^^^ W (16 * 0 + i) = backTo W' x 14 i ^^^ W' (16 * 0 + i)
  rw [h _ (by omega), backTo_words h 14 (Nat.le_refl _) i hi]

/-! ### Twenty-four bytes -/
def Same24 (x y : Nat → Nat) : Prop := ∀ i, i < 24 → x i = y i
def blkP (s i : Nat) : Nat := pk (wblk (bt s) i) 16
def putP (s i x : Nat) : Nat := pk (wput (bt s) i (bt x)) 24
theorem blkP_eq (s i : Nat) : Same16 (bt (blkP s i)) (wblk (bt s) i) := fun j hj => by
  unfold blkP
  rw [bt_pk 16 (fun j _ => by unfold wblk; split <;> exact bt_lt _ _) j hj]
theorem putP_eq (s i x : Nat) : Same24 (bt (putP s i x)) (wput (bt s) i (bt x)) := fun j hj => by
  unfold putP
  rw [bt_pk 24 (fun j _ => by unfold wput; split; exact bt_lt _ _; split <;> exact bt_lt _ _) j hj]
theorem wput24 {S S' x x' : Nat → Nat} {i : Nat} (h : Same24 S S') (hx : Same16 x x') : Same24 (wput S i x) (wput S' i x') := fun j hj => by
  unfold wput
  split
  · exact hx j (by omega)
  · split
    · exact hx _ (by omega)
    · exact h j hj
theorem wblk24 {S S' : Nat → Nat} {i : Nat} (h : Same24 S S') (hi : i ≤ 2) : Same16 (wblk S i) (wblk S' i) := fun j hj => by
  unfold wblk
  split
  · exact h j (by omega)
  · exact h _ (by omega)
def mixP (x m : Nat) : Nat := pk (wmix (bt x) m) 16
theorem mixP_eq (x m : Nat) : Same16 (bt (mixP x m)) (wmix (bt x) m) := fun j hj => by
  unfold mixP
  rw [bt_pk 16 (wmix_lt (x := bt x) (fun _ _ => bt_lt _ _) m) j hj]
def wstepP (W s i m : Nat) : Nat := frc (blkP s i) fun x => frc (turnP W x 14) fun y => frc (mixP y m) fun z => putP s i z
def ustepP (W s i m : Nat) : Nat := frc (blkP s i) fun x => frc (mixP x m) fun y => frc (backN W y) fun z => putP s i z
theorem wstepP_eq {V S : Nat → Nat} {W s i m : Nat} (hV : ∀ q, q < 240 → V q = bt W q) (h : Same24 S (bt s)) (hi : i ≤ 2) : Same24 (wstep V S i m) (bt (wstepP W s i m)) := by
  unfold wstepP
  rw [frc_eq, frc_eq, frc_eq]
  have h1 : Same16 (wblk S i) (bt (blkP s i)) := (wblk24 h hi).trans (blkP_eq s i).symm
  have h2 : Same16 (turnF V (wblk S i)) (bt (turnP W (blkP s i) 14)) := (same_turn h1).trans ((turnTo_words hV 14 (Nat.le_refl _)).trans (turnP_eq W _ 14).symm)
  have h3 := (wmix_same h2 m).trans (mixP_eq _ m).symm
  exact fun j hj => (wput24 h h3 j hj).trans (putP_eq _ _ _ j hj).symm
theorem ustepP_eq {V S : Nat → Nat} {W s i m : Nat} (hV : ∀ q, q < 240 → V q = bt W q) (h : Same24 S (bt s)) (hi : i ≤ 2) : Same24 (ustep V S i m) (bt (ustepP W s i m)) := by
  unfold ustepP
  rw [frc_eq, frc_eq, frc_eq]
  have h1 : Same16 (wblk S i) (bt (blkP s i)) := (wblk24 h hi).trans (blkP_eq s i).symm
  have h2 := (wmix_same h1 m).trans (mixP_eq _ m).symm
  have h3 : Same16 (backF V (wmix (wblk S i) m)) (bt (backN W (mixP (blkP s i) m))) := (same_back h2).trans ((backF_words hV).trans (backN_eq W _).symm)
  exact fun j hj => (wput24 h h3 j hj).trans (putP_eq _ _ _ j hj).symm
def wrapP (W s : Nat) : Nat → Nat
  | 0 => s
  | k + 1 => frc (wrapP W s k) fun r => wstepP W r (k % 2 + 1) (k + 1)
def unP (W s : Nat) : Nat → Nat
  | 0 => s
  | k + 1 => frc (unP W s k) fun r => ustepP W r ((12 - 1 - k) % 2 + 1) (12 - k)
theorem wrapP_eq {V S : Nat → Nat} {W s : Nat} (hV : ∀ q, q < 240 → V q = bt W q) (h : Same24 S (bt s)) : ∀ k, Same24 (wrapTo V S 2 k) (bt (wrapP W s k))
  | 0 => h
  | k + 1 => by
    have ih := wrapP_eq hV h k
    unfold wrapP
    rw [frc_eq, wrapTo_succ]
    exact wstepP_eq hV ih (by omega)
theorem unP_eq {V S : Nat → Nat} {W s : Nat} (hV : ∀ q, q < 240 → V q = bt W q) (h : Same24 S (bt s)) : ∀ k, Same24 (unTo V S 2 12 k) (bt (unP W s k))
  | 0 => h
  | k + 1 => by
    have ih := unP_eq hV h k
    unfold unP
    rw [frc_eq, unTo_succ]
    exact ustepP_eq hV ih (by omega)
/-- The fixed calls' words. -/
def fixK : Nat → Nat := fun i => if i < 32 then i else 0
def fixT : List Nat := (List.range 16).map fun i => 17 * i
def fixW : Nat := wordsP (pk (fun i => i) 32) 60
def fixS : Nat := pk (byt (List.replicate 8 166 ++ fixT)) 24
theorem fix_wrap : (frc fixW fun W => frc fixS fun s => wrapP W s 12 % 4294967296) = 100 + 256 * (232 + 256 * (195 + 256 * 249)) := by decide +kernel
theorem fix_un : ((frc fixW fun W => unP W 0 12 % 256) == 166) = false := by decide +kernel
theorem bt_low {n m : Nat} {i : Nat} (hi : i < 4) (h : n % 4294967296 = m) : bt n i = bt m i := by
  have : i = 0 ∨ i = 1 ∨ i = 2 ∨ i = 3 := by omega
  subst h
  unfold bt
  rcases this with rfl | rfl | rfl | rfl <;> omega
end Go.Proofs.Ytecmagenlbnchaa
namespace Go.Proofs.Ytecmagenlbnchaa
set_option maxRecDepth 100000

theorem under_under {E D : (Nat → Nat) → Nat → Nat} (hDE : ∀ x, Bytes16 x → Same16 (D (E x)) x) {m x : Nat → Nat} (hm : Bytes16 m) (hx : Bytes16 x) : Same16 (under D m (under E m x)) x := by
  unfold under
  rw [xor16_twice]
  exact (xor16_same (hDE _ (xor16_lt hx hm)) m).trans (by rw [xor16_twice]; exact Same16.refl _)
theorem under_same {E : (Nat → Nat) → Nat → Nat} (hE : ∀ x y, Same16 x y → Same16 (E x) (E y)) {m x y : Nat → Nat} (h : Same16 x y) : Same16 (under E m x) (under E m y) :=
  xor16_same (hE _ _ (xor16_same h m)) m
theorem under_lt {E : (Nat → Nat) → Nat → Nat} (hE : ∀ x, Bytes16 x → Bytes16 (E x)) {m x : Nat → Nat} (hm : Bytes16 m) (hx : Bytes16 x) : Bytes16 (under E m x) :=
  xor16_lt (hE _ (xor16_lt hx hm)) hm
theorem sec_blk (E : (Nat → Nat) → Nat → Nat) (m b : Nat → Nat) (k : Nat) : Same16 (blk (sec E m b) k) (under E (maskTo m k) (blk b k)) := fun i hi => by
  unfold blk sec
  rw [show (16 * k + i) / 16 = k by omega, show (16 * k + i) % 16 = i by omega]
  rfl
theorem sec_lt {E : (Nat → Nat) → Nat → Nat} (hE : ∀ x, Bytes16 x → Bytes16 (E x)) {m b : Nat → Nat} (hm : Bytes16 m) (hb : ∀ i, b i < 256) (i : Nat) : sec E m b i < 256 :=
  under_lt hE (maskTo_lt hm (i / 16)) (x := blk b (i / 16)) (fun _ _ => hb _) (i % 16) (Nat.mod_lt _ (by decide))
/-- What is turned is turned back. -/
theorem sec_back {E D : (Nat → Nat) → Nat → Nat} (hDE : ∀ x, Bytes16 x → Same16 (D (E x)) x) (hD : ∀ x y, Same16 x y → Same16 (D x) (D y)) {m : Nat → Nat} (hm : Bytes16 m) {l : List Nat} (hl : l.length % 16 = 0) (hs : ∀ x ∈ l, x < 256) :
    bytesOf (sec D m (byt (bytesOf (sec E m (byt l)) l.length))) l.length = l := by
  conv => rhs; rw [← bytesOf_byt l]
  refine bytesOf_congr fun i hi => ?_
  have hk : 16 * (i / 16) + 15 < l.length := by omega
  have h1 : Same16 (blk (byt (bytesOf (sec E m (byt l)) l.length)) (i / 16)) (under E (maskTo m (i / 16)) (blk (byt l) (i / 16))) := fun j hj => by
    show byt (bytesOf (sec E m (byt l)) l.length) (16 * (i / 16) + j) = _
    rw [byt_bytesOf _ (by omega)]
    exact sec_blk E m (byt l) (i / 16) j hj
  have hb : Bytes16 (blk (byt l) (i / 16)) := fun j _ => byt_lt hs _
  have h2 := (under_same hD (m := maskTo m (i / 16)) h1).trans (under_under hDE (maskTo_lt hm _) hb)
  have h3 := h2 (i % 16) (by omega)
  show under D (maskTo m (i / 16)) (blk (byt (bytesOf (sec E m (byt l)) l.length)) (i / 16)) (i % 16) = byt l i
  rw [h3]
  show byt l (16 * (i / 16) + i % 16) = byt l i
  congr 1; omega

/-- The fixed call: two blocks of noughts are turned to unlike ones. -/
def xvY : Nat := turnK 2 5
def xvOk : Bool := frc xvY (fun y => frc (pk (dblM (bt y)) 16) fun y' => frc (turnK 1 y) fun a => frc (turnK 1 y') fun b => if (bt a 0 ^^^ bt y 0) = (bt b 0 ^^^ bt y' 0) then 0 else 1) == 1
theorem xv_ok : xvOk = true := by decide +kernel
theorem xvec {f1 f2 : Nat → Nat} (h1 : ∀ q, q < 32 → f1 q = bt 1 q) (h2 : ∀ q, q < 32 → f2 q = bt 2 q) {z : Nat → Nat} (hz : ∀ i, i < 32 → z i = 0) :
    sec (turnF (byt (wordsOf f1))) (turnF (byt (wordsOf f2)) (twk 5)) z 0 ≠ sec (turnF (byt (wordsOf f1))) (turnF (byt (wordsOf f2)) (twk 5)) z 16 := by
  have hok := xv_ok
  unfold xvOk at hok
  rw [frc_eq, frc_eq, frc_eq, frc_eq] at hok
  have e5 : ∀ i, i < 16 → twk 5 i = bt 5 i := by decide +kernel
  have hM : Same16 (turnF (byt (wordsOf f2)) (twk 5)) (bt xvY) := turn_key h2 e5
  generalize turnF (byt (wordsOf f2)) (twk 5) = M at *
  have hM1 : Same16 (dblM M) (bt (pk (dblM (bt xvY)) 16)) := fun i hi => by
    rw [same_dblM hM i hi, bt_pk 16 (fun j hj => dblM_lt (fun _ _ => bt_lt _ _) j hj) i hi]
  have hA : Same16 (turnF (byt (wordsOf f1)) (xor16 (blk z 0) M)) (bt (turnK 1 xvY)) := turn_key h1 fun i hi => by
    show z (16 * 0 + i) ^^^ M i = _
    rw [hz _ (by omega), Nat.zero_xor, hM i hi]
  have hB : Same16 (turnF (byt (wordsOf f1)) (xor16 (blk z 1) (dblM M))) (bt (turnK 1 (pk (dblM (bt xvY)) 16))) := turn_key h1 fun i hi => by
    show z (16 * 1 + i) ^^^ dblM M i = _
    rw [hz _ (by omega), Nat.zero_xor, hM1 i hi]
  intro h
  have e0 : sec (turnF (byt (wordsOf f1))) M z 0 = bt (turnK 1 xvY) 0 ^^^ bt xvY 0 := by
    show turnF (byt (wordsOf f1)) (xor16 (blk z 0) M) 0 ^^^ M 0 = _
    rw [hA 0 (by decide), hM 0 (by decide)]
  have e1 : sec (turnF (byt (wordsOf f1))) M z 16 = bt (turnK 1 (pk (dblM (bt xvY)) 16)) 0 ^^^ bt (pk (dblM (bt xvY)) 16) 0 := by
    show turnF (byt (wordsOf f1)) (xor16 (blk z 1) (dblM M)) 0 ^^^ dblM M 0 = _
    rw [hB 0 (by decide), hM1 0 (by decide)]
  rw [e0, e1] at h
  rw [if_pos h] at hok
  exact absurd hok (by decide)
end Go.Proofs.Ytecmagenlbnchaa
