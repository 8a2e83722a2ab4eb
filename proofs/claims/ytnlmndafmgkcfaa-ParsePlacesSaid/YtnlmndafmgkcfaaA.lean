/- Plain facts on lines: blanks, the first word from a place on, all words, texts up to a byte. No program. -/
import Derived.IntWalk
import Derived.Lib.IndexBytes
namespace Go.Proofs.Ytnlmndafmgkcfaa
def isBl (c : UInt8) : Bool := decide ((c.toNat : Int) ≤ 32)
def placeI (n : Nat) (a : Int) : Nat := (min (max a 0) n).toNat
theorem placeI_le (n : Nat) (a : Int) : placeI n a ≤ n := by unfold placeI; omega

def skp (s : ByteArray) (i : Nat) : Nat := if h : i < s.size then (if isBl s[i] then skp s (i + 1) else i) else i
termination_by s.size - i
def wend (s : ByteArray) (i : Nat) : Nat := if h : i < s.size then (if isBl s[i] then i else wend s (i + 1)) else i
termination_by s.size - i
theorem skp_step {s : ByteArray} {i : Nat} (h : i < s.size) (hb : isBl s[i] = true) : skp s i = skp s (i + 1) := by
  rw [skp, dif_pos h, if_pos hb]
theorem skp_stop {s : ByteArray} {i : Nat} (h : i < s.size) (hb : isBl s[i] = false) : skp s i = i := by
  rw [skp, dif_pos h, if_neg (by simp [hb])]
theorem skp_end {s : ByteArray} {i : Nat} (h : ¬ i < s.size) : skp s i = i := by
  rw [skp, dif_neg h]
theorem wend_step {s : ByteArray} {i : Nat} (h : i < s.size) (hb : isBl s[i] = false) : wend s i = wend s (i + 1) := by
  rw [wend, dif_pos h, if_neg (by simp [hb])]
theorem wend_stop {s : ByteArray} {i : Nat} (h : i < s.size) (hb : isBl s[i] = true) : wend s i = i := by
  rw [wend, dif_pos h, if_pos hb]
theorem wend_end {s : ByteArray} {i : Nat} (h : ¬ i < s.size) : wend s i = i := by
  rw [wend, dif_neg h]
theorem skp_ge (s : ByteArray) (i : Nat) : i ≤ skp s i := by
  fun_induction skp s i <;> omega
theorem skp_le (s : ByteArray) (i : Nat) (h : i ≤ s.size) : skp s i ≤ s.size := by
  fun_induction skp s i <;> omega
theorem wend_ge (s : ByteArray) (i : Nat) : i ≤ wend s i := by
  fun_induction wend s i <;> omega
theorem wend_le (s : ByteArray) (i : Nat) (h : i ≤ s.size) : wend s i ≤ s.size := by
  fun_induction wend s i <;> omega

/-- where the first word from a place on begins and ends; the place behind it. -/
def nFrom (s : ByteArray) (a : Int) : Nat := skp s (placeI s.size a)
def nTo (s : ByteArray) (a : Int) : Nat := wend s (nFrom s a)
def nWord (s : ByteArray) (a : Int) : ByteArray := s.extract (nFrom s a) (nTo s a)
def nNext (s : ByteArray) (a : Int) : Nat := min (nTo s a + 1) s.size
theorem nFrom_le (s : ByteArray) (a : Int) : nFrom s a ≤ s.size := skp_le s _ (placeI_le _ _)
theorem nFrom_to (s : ByteArray) (a : Int) : nFrom s a ≤ nTo s a := wend_ge s _
theorem nTo_le (s : ByteArray) (a : Int) : nTo s a ≤ s.size := wend_le s _ (nFrom_le s a)
theorem nNext_le (s : ByteArray) (a : Int) : nNext s a ≤ s.size := by unfold nNext; omega
theorem placeI_nat {n k : Nat} (h : k ≤ n) : placeI n (k : Int) = k := by unfold placeI; omega
theorem nNext_gt (s : ByteArray) (k : Nat) (h : k < s.size) : k < nNext s (k : Int) := by
  have h1 : k ≤ nFrom s k := by unfold nFrom; rw [placeI_nat (by omega)]; exact skp_ge s k
  have h2 := nFrom_to s (k : Int)
  unfold nNext; omega
theorem nWord_size (s : ByteArray) (a : Int) : (nWord s a).size = nTo s a - nFrom s a := by
  have := nTo_le s a
  simp [nWord, ByteArray.size_extract]; omega

/-- all words from a place on. -/
def wordsOf (s : ByteArray) (k : Nat) : List ByteArray :=
  if h : k < s.size then
    have := nNext_gt s k h
    (if nFrom s (k : Int) < nTo s (k : Int) then [nWord s k] else []) ++ wordsOf s (nNext s k)
  else []
termination_by s.size - k
theorem wordsOf_end {s : ByteArray} {k : Nat} (h : ¬ k < s.size) : wordsOf s k = [] := by rw [wordsOf, dif_neg h]
theorem wordsOf_word {s : ByteArray} {k : Nat} (h : k < s.size) (hw : nFrom s (k : Int) < nTo s (k : Int)) : wordsOf s k = nWord s k :: wordsOf s (nNext s k) := by
  rw [wordsOf, dif_pos h, if_pos hw]; rfl
theorem wordsOf_none {s : ByteArray} {k : Nat} (h : k < s.size) (hw : ¬ nFrom s (k : Int) < nTo s (k : Int)) : wordsOf s k = wordsOf s (nNext s k) := by
  rw [wordsOf, dif_pos h, if_neg hw]; rfl
theorem wordsOf_length (s : ByteArray) (k : Nat) : (wordsOf s k).length ≤ s.size - k := by
  fun_induction wordsOf s k with
  | case1 k h hgt ih =>
    have := nNext_le s (k : Int)
    split <;> simp <;> omega
  | case2 => simp
end Go.Proofs.Ytnlmndafmgkcfaa
