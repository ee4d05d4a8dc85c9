/-
  Wraps of fixed words reckoned fast. No condition; no program in sight.
-/
import Derived.Test.YtnadgjlmlnhknaaAesFast
import Derived.Test.YtnadgjlmlnhknaaWrapPlain
namespace Go.Proofs.Ytnadgjlmlnhknaa

def UNB : Nat := 15785769749828884342349381641981096363179738000380205650940338083111619982568718420166261191398703005748170232611805704157196303061330872280026969925224128193193768962594508714770967646139604422718174787315048227180018877623049221087186576642191304514338137614235628241783007805847129270530950856841486400764657112140097236091222567730363620332611309375046737430203438830593833719428588466121688739068564421474273450162064709239629809347626728710072303178617319436726577534667237755444692000788692193415136619289353224918429728194544458916874716857284226411602766869706570927007876872095880586785662942963508062062930
theorem unb_bt {a : Nat} (ha : a < 256) : bt UNB a = gunb a := by
  have h : (List.range 256).all (fun x => bt UNB (gbox x) == x) = true := by decide +kernel
  obtain ⟨h1, h2⟩ := unb_lt_box a ha
  have h3 := eq_of_beq (of_all h h1)
  rwa [h2] at h3
def midQ (W r s : Nat) : Nat := frc (pk (fun i => bt s i ^^^ bt W (16 * r + i)) 16) fun a => frc (if r < 14 then pk (colsF 14 11 13 9 (bt a)) 16 else a) fun c => pk (fun i => bt UNB (bt c ((i + 12 * (i % 4)) % 16))) 16
theorem midQ_eq (W r s : Nat) : Same16 (bt (midQ W r s)) (midB r (addF (bt W) r (bt s))) := by
  unfold midQ
  rw [frc_eq, frc_eq]
  have h1 : Same16 (bt (pk (fun i => bt s i ^^^ bt W (16 * r + i)) 16)) (addF (bt W) r (bt s)) := fun i hi => by
    rw [bt_pk 16 (fun _ _ => xor_lt8 (bt_lt _ _) (bt_lt _ _)) i hi]; rfl
  generalize pk (fun i => bt s i ^^^ bt W (16 * r + i)) 16 = a at *
  have h2 : Same16 (bt (if r < 14 then pk (colsF 14 11 13 9 (bt a)) 16 else a)) (if r < 14 then colsF 14 11 13 9 (addF (bt W) r (bt s)) else addF (bt W) r (bt s)) := by
    by_cases h : r < 14
    · rw [if_pos h, if_pos h]
      have hb : Bytes16 (colsF 14 11 13 9 (bt a)) := Bytes16.cols (x := bt a) (fun _ _ => bt_lt _ _) (by decide) (by decide) (by decide) (by decide)
      intro i hi
      rw [bt_pk 16 hb i hi]
      exact h1.cols 14 11 13 9 i hi
    · rw [if_neg h, if_neg h]; exact h1
  generalize (if r < 14 then pk (colsF 14 11 13 9 (bt a)) 16 else a) = c at *
  intro i hi
  rw [bt_pk 16 (fun _ _ => bt_lt _ _) i hi, unb_bt (bt_lt _ _)]
  unfold midB
  exact h2.rowsB gunb i hi
def backP (W x : Nat) : Nat → Nat
  | 0 => x
  | k + 1 => frc (backP W x k) fun s => midQ W (14 - k) s
theorem backP_eq (W x : Nat) : ∀ k, Same16 (bt (backP W x k)) (backTo (bt W) (bt x) k)
  | 0 => Same16.refl _
  | k + 1 => by
    have ih := backP_eq W x k
    unfold backP
    rw [frc_eq, backTo_succ]
    exact (midQ_eq W (14 - k) _).trans ((ih.add (bt W) (14 - k)).midB (14 - k))
def backN (W x : Nat) : Nat := frc (backP W x 14) fun s => pk (fun i => bt s i ^^^ bt W i) 16
theorem backN_eq (W x : Nat) : Same16 (bt (backN W x)) (backF (bt W) (bt x)) := fun i hi => by
  unfold backN
  rw [frc_eq, bt_pk 16 (fun _ _ => xor_lt8 (bt_lt _ _) (bt_lt _ _)) i hi]
  unfold backF addF
  rw [backP_eq W x 14 i hi, Nat.mul_zero, Nat.zero_add]
theorem backTo_words {W W' x : Nat → Nat} (h : ∀ q, q < 240 → W q = W' q) : ∀ k, k ≤ 14 → Same16 (backTo W x k) (backTo W' x k)
  | 0, _ => Same16.refl _
  | k + 1, hk => by
    have ih := backTo_words (x := x) h k (by omega)
    rw [backTo_succ, backTo_succ]
    refine Same16.midB (fun i hi => ?_) (14 - k)
    show backTo W x k i ^^^ W (16 * (14 - k) + i) = backTo W' x k i ^^^ W' (16 * (14 - k) + i)
    rw [h _ (by omega), ih i hi]
theorem backF_words {W W' x : Nat → Nat} (h : ∀ q, q < 240 → W q = W' q) : Same16 (backF W x) (backF W' x) := fun i hi => by
  show backTo W x 14 i ^^^ W (16 * 0 + i) = backTo W' x 14 i ^^^ W' (16 * 0 + i)
  rw [h _ (by omega), backTo_words h 14 (Nat.le_refl _) i hi]

/-! ### Twenty-four bytes -/
def Same24 (x y : Nat → Nat) : Prop := ∀ i, i < 24 → x i = y i
def blkP (s i : Nat) : Nat := pk (wblk (bt s) i) 16
def putP (s i x : Nat) : Nat := pk (wput (bt s) i (bt x)) 24
theorem blkP_eq (s i : Nat) : Same16 (bt (blkP s i)) (wblk (bt s) i) := fun j hj => by
  unfold blkP
  rw [bt_pk 16 (fun j _ => by unfold wblk; split <;> exact bt_lt _ _) j hj]
theorem putP_eq (s i x : Nat) : Same24 (bt (putP s i x)) (wput (bt s) i (bt x)) := fun j hj => by
  unfold putP
  rw [bt_pk 24 (fun j _ => by unfold wput; split; exact bt_lt _ _; split <;> exact bt_lt _ _) j hj]
theorem wput24 {S S' x x' : Nat → Nat} {i : Nat} (h : Same24 S S') (hx : Same16 x x') : Same24 (wput S i x) (wput S' i x') := fun j hj => by
  unfold wput
  split
  · exact hx j (by omega)
  · split
    · exact hx _ (by omega)
    · exact h j hj
theorem wblk24 {S S' : Nat → Nat} {i : Nat} (h : Same24 S S') (hi : i ≤ 2) : Same16 (wblk S i) (wblk S' i) := fun j hj => by
  unfold wblk
  split
  · exact h j (by omega)
  · exact h _ (by omega)
def mixP (x m : Nat) : Nat := pk (wmix (bt x) m) 16
theorem mixP_eq (x m : Nat) : Same16 (bt (mixP x m)) (wmix (bt x) m) := fun j hj => by
  unfold mixP
  rw [bt_pk 16 (wmix_lt (x := bt x) (fun _ _ => bt_lt _ _) m) j hj]
def wstepP (W s i m : Nat) : Nat := frc (blkP s i) fun x => frc (turnP W x 14) fun y => frc (mixP y m) fun z => putP s i z
def ustepP (W s i m : Nat) : Nat := frc (blkP s i) fun x => frc (mixP x m) fun y => frc (backN W y) fun z => putP s i z
theorem wstepP_eq {V S : Nat → Nat} {W s i m : Nat} (hV : ∀ q, q < 240 → V q = bt W q) (h : Same24 S (bt s)) (hi : i ≤ 2) : Same24 (wstep V S i m) (bt (wstepP W s i m)) := by
  unfold wstepP
  rw [frc_eq, frc_eq, frc_eq]
  have h1 : Same16 (wblk S i) (bt (blkP s i)) := (wblk24 h hi).trans (blkP_eq s i).symm
  have h2 : Same16 (turnF V (wblk S i)) (bt (turnP W (blkP s i) 14)) := (same_turn h1).trans ((turnTo_words hV 14 (Nat.le_refl _)).trans (turnP_eq W _ 14).symm)
  have h3 := (wmix_same h2 m).trans (mixP_eq _ m).symm
  exact fun j hj => (wput24 h h3 j hj).trans (putP_eq _ _ _ j hj).symm
theorem ustepP_eq {V S : Nat → Nat} {W s i m : Nat} (hV : ∀ q, q < 240 → V q = bt W q) (h : Same24 S (bt s)) (hi : i ≤ 2) : Same24 (ustep V S i m) (bt (ustepP W s i m)) := by
  unfold ustepP
  rw [frc_eq, frc_eq, frc_eq]
  have h1 : Same16 (wblk S i) (bt (blkP s i)) := (wblk24 h hi).trans (blkP_eq s i).symm
  have h2 := (wmix_same h1 m).trans (mixP_eq _ m).symm
  have h3 : Same16 (backF V (wmix (wblk S i) m)) (bt (backN W (mixP (blkP s i) m))) := (same_back h2).trans ((backF_words hV).trans (backN_eq W _).symm)
  exact fun j hj => (wput24 h h3 j hj).trans (putP_eq _ _ _ j hj).symm
def wrapP (W s : Nat) : Nat → Nat
  | 0 => s
  | k + 1 => frc (wrapP W s k) fun r => wstepP W r (k % 2 + 1) (k + 1)
def unP (W s : Nat) : Nat → Nat
  | 0 => s
  | k + 1 => frc (unP W s k) fun r => ustepP W r ((12 - 1 - k) % 2 + 1) (12 - k)
theorem wrapP_eq {V S : Nat → Nat} {W s : Nat} (hV : ∀ q, q < 240 → V q = bt W q) (h : Same24 S (bt s)) : ∀ k, Same24 (wrapTo V S 2 k) (bt (wrapP W s k))
  | 0 => h
  | k + 1 => by
    have ih := wrapP_eq hV h k
    unfold wrapP
    rw [frc_eq, wrapTo_succ]
    exact wstepP_eq hV ih (by omega)
theorem unP_eq {V S : Nat → Nat} {W s : Nat} (hV : ∀ q, q < 240 → V q = bt W q) (h : Same24 S (bt s)) : ∀ k, Same24 (unTo V S 2 12 k) (bt (unP W s k))
  | 0 => h
  | k + 1 => by
    have ih := unP_eq hV h k
    unfold unP
    rw [frc_eq, unTo_succ]
    exact ustepP_eq hV ih (by omega)
/-- The fixed calls' words. -/
def fixK : Nat → Nat := fun i => if i < 32 then i else 0
def fixT : List Nat := (List.range 16).map fun i => 17 * i
def fixW : Nat := wordsP (pk (fun i => i) 32) 60
def fixS : Nat := pk (byt (List.replicate 8 166 ++ fixT)) 24
theorem fix_wrap : (frc fixW fun W => frc fixS fun s => wrapP W s 12 % 4294967296) = 100 + 256 * (232 + 256 * (195 + 256 * 249)) := by decide +kernel
theorem fix_un : ((frc fixW fun W => unP W 0 12 % 256) == 166) = false := by decide +kernel
theorem bt_low {n m : Nat} {i : Nat} (hi : i < 4) (h : n % 4294967296 = m) : bt n i = bt m i := by
  have : i = 0 ∨ i = 1 ∨ i = 2 ∨ i = 3 := by omega
  subst h
  unfold bt
  rcases this with rfl | rfl | rfl | rfl <;> omega
end Go.Proofs.Ytnadgjlmlnhknaa
