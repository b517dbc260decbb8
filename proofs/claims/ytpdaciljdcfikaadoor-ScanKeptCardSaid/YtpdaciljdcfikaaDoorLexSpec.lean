/- What chapter 4 fixes, as plain functions over bytes: the words of a text of rules. No program in sight. -/
import Derived.Lib.DecodeN
namespace Go.Proofs.YtpdaciljdcfikaaDoor
open Go
set_option linter.unusedVariables false
set_option linter.unusedSimpArgs false

/-- The byte at a place; 0 behind the end. -/
def B (s : ByteArray) (i : Nat) : Nat := if h : i < s.size then (s[i]'h).toNat else 0
theorem B_lt (s : ByteArray) (i : Nat) : B s i < 256 := by
  unfold B; split
  · exact UInt8.toNat_lt _
  · decide
theorem B_at {s : ByteArray} {i : Nat} (h : i < s.size) : B s i = (s[i]'h).toNat := dif_pos h
theorem B_out {s : ByteArray} {i : Nat} (h : s.size ≤ i) : B s i = 0 := dif_neg (by omega)

def smallB (c : Nat) : Bool := decide (97 ≤ c) && decide (c ≤ 122)
def digitB (c : Nat) : Bool := decide (48 ≤ c) && decide (c ≤ 57)
def hexB (c : Nat) : Bool := digitB c || (decide (65 ≤ c) && decide (c ≤ 70))
def grownB (c : Nat) : Bool := smallB c || digitB c || (decide (65 ≤ c) && decide (c ≤ 90)) || c == 45 || c == 95
def nameB (c : Nat) : Bool := smallB c || digitB c || c == 45
def hexV (c : Nat) : Nat := if c ≤ 57 then c - 48 else c - 55
def blankB (c : Nat) : Bool := c == 32 || c == 9 || c == 10 || c == 13
def scalarB (r : Nat) : Bool := decide (r ≤ 1114111) && (decide (r < 55296) || decide (57343 < r))

/-- Is there a sequence at a place (which lies in the text)? -/
def goodAt (s : ByteArray) (i : Nat) : Bool := !((Utf8.decode s i).2 == 1) || decide (B s i < 128)

/-- How a sequence goes on behind its first byte. -/
def needN (c : Nat) : Option (Nat × Nat × Nat) :=
  if c < 128 then some (0, 0, 0)
  else if 194 ≤ c ∧ c ≤ 223 then some (1, 128, 191)
  else if c = 224 then some (2, 160, 191)
  else if c = 237 then some (2, 128, 159)
  else if 225 ≤ c ∧ c ≤ 239 then some (2, 128, 191)
  else if c = 240 then some (3, 144, 191)
  else if 241 ≤ c ∧ c ≤ 243 then some (3, 128, 191)
  else if c = 244 then some (3, 128, 143)
  else none

/-- The first place from p + k on at which the sequence at p goes wrong; f more bytes are wanted, the next one in lo .. hi. -/
def wrongGo (s : ByteArray) (p : Nat) : Nat → Nat → Nat → Nat → Nat
  | 0, k, _, _ => p + k
  | f + 1, k, lo, hi => if p + k < s.size ∧ lo ≤ B s (p + k) ∧ B s (p + k) ≤ hi then wrongGo s p f (k + 1) 128 191 else p + k
def wrongAt (s : ByteArray) (p : Nat) : Nat :=
  match needN (B s p) with
  | none => p
  | some (n, lo, hi) => wrongGo s p n 1 lo hi

/-- Line and column of place t: what lies between place i (line l, column c) and it. -/
def whereGo (s : ByteArray) (t : Nat) : Nat → Nat → Nat → Nat → Nat × Nat
  | 0, _, l, c => (l, c)
  | f + 1, i, l, c =>
    if i < t then
      (if t < i + (Utf8.decode s i).2 then (l, c)
       else if (Utf8.decode s i).1 = 10 then whereGo s t f (i + (Utf8.decode s i).2) (l + 1) 1
       else whereGo s t f (i + (Utf8.decode s i).2) l (c + 1))
    else (l, c)
def whereN (s : ByteArray) (t : Nat) : Nat × Nat := whereGo s t t 0 1 1

def nameGo (s : ByteArray) (p : Nat) : Nat → Nat → Nat × Bool
  | 0, i => (i, true)
  | f + 1, i => if nameB (B s i) then (if i - p = 32 then (i, false) else nameGo s p f (i + 1)) else (i, true)
def nameN (s : ByteArray) (p : Nat) : Nat × Bool := nameGo s p (s.size - p) p

def numberGo (s : ByteArray) (p : Nat) : Nat → Nat → Nat → Nat × Nat × Bool
  | 0, i, n => (n, i, true)
  | f + 1, i, n =>
    if digitB (B s i) then
      (if (p < i ∧ n = 0) ∨ 65535 < n * 10 + (B s i - 48) then (0, i, false) else numberGo s p f (i + 1) (n * 10 + (B s i - 48)))
    else (n, i, true)
def numberN (s : ByteArray) (p : Nat) : Nat × Nat × Bool := numberGo s p (s.size - p) p 0

/-- Behind 'U+' (at p): one digit more than six, than four behind a nought, than five that do not begin with 10? -/
def tooLong (s : ByteArray) (p i : Nat) : Bool :=
  decide (i - p - 2 = 6) || (decide (4 ≤ i - p - 2) && B s (p + 2) == 48) || (decide (i - p - 2 = 5) && !(B s (p + 2) == 49 && B s (p + 3) == 48))
def pointEnd (p i r : Nat) : Nat × Nat × Bool := (r, i, decide (6 ≤ i - p) && scalarB r)
def pointGo (s : ByteArray) (p : Nat) : Nat → Nat → Nat → Nat × Nat × Bool
  | 0, i, r => pointEnd p i r
  | f + 1, i, r =>
    if hexB (B s i) then (if tooLong s p i then (0, i, false) else pointGo s p f (i + 1) (r * 16 + hexV (B s i)))
    else pointEnd p i r
def pointN (s : ByteArray) (p : Nat) : Nat × Nat × Bool :=
  if B s (p + 1) = 43 then pointGo s p (s.size - (p + 2)) (p + 2) 0 else (0, p + 1, false)

def quotedN (s : ByteArray) (p : Nat) : Nat × Nat × Bool :=
  if s.size ≤ p + 1 then (0, p + 1, false)
  else if goodAt s (p + 1) = false then (0, wrongAt s (p + 1), false)
  else if (Utf8.decode s (p + 1)).1 < 32 ∨ (Utf8.decode s (p + 1)).1 = 39 ∨ (Utf8.decode s (p + 1)).1 = 127 then (0, p + 1, false)
  else if B s (p + 1 + (Utf8.decode s (p + 1)).2) = 39 then ((Utf8.decode s (p + 1)).1, p + 1 + (Utf8.decode s (p + 1)).2 + 1, true)
  else (0, p + 1 + (Utf8.decode s (p + 1)).2, false)

def remarkGo (s : ByteArray) : Nat → Nat → Nat × Bool
  | 0, i => (i, true)
  | f + 1, i =>
    if i < s.size ∧ ¬ B s i = 10 then (if goodAt s i then remarkGo s f (i + (Utf8.decode s i).2) else (wrongAt s i, false))
    else (i, true)
def remarkN (s : ByteArray) (i : Nat) : Nat × Bool := remarkGo s (s.size - i) i

/-- A word: its kind, its first byte's place and the one behind its last, a name's text, a rune, a number. -/
structure Wd where
  kind : Nat
  fr : Nat
  en : Nat
  txt : ByteArray
  r : Nat
  n : Nat

def signN (c : Nat) : Nat := if c = 123 then 4 else if c = 125 then 5 else if c = 59 then 6 else if c = 61 then 7 else if c = 43 then 8 else 0
/-- What ends at i: nothing that may not may stand behind it. -/
def apartN (s : ByteArray) (w : Wd) (i : Nat) : Wd × Nat × Bool := (w, i, !grownB (B s i))
/-- The word that begins at p (a place in the text where neither a blank nor a remark stands): it, where it ends; false: the first wrong place. -/
def wordN (s : ByteArray) (p : Nat) : Wd × Nat × Bool :=
  if smallB (B s p) then
    (if (nameN s p).2 then apartN s ⟨1, p, (nameN s p).1, s.extract p (nameN s p).1, 0, 0⟩ (nameN s p).1 else (⟨0, 0, 0, ByteArray.empty, 0, 0⟩, (nameN s p).1, false))
  else if digitB (B s p) then
    (if (numberN s p).2.2 then apartN s ⟨2, p, (numberN s p).2.1, ByteArray.empty, 0, (numberN s p).1⟩ (numberN s p).2.1 else (⟨0, 0, 0, ByteArray.empty, 0, 0⟩, (numberN s p).2.1, false))
  else if B s p = 85 then
    (if (pointN s p).2.2 then apartN s ⟨3, p, (pointN s p).2.1, ByteArray.empty, (pointN s p).1, 0⟩ (pointN s p).2.1 else (⟨0, 0, 0, ByteArray.empty, 0, 0⟩, (pointN s p).2.1, false))
  else if B s p = 39 then (⟨3, p, (quotedN s p).2.1, ByteArray.empty, (quotedN s p).1, 0⟩, (quotedN s p).2.1, (quotedN s p).2.2)
  else if B s p = 46 then (⟨9, p, p + 2, ByteArray.empty, 0, 0⟩, if B s (p + 1) = 46 then p + 2 else p + 1, B s (p + 1) == 46)
  else if signN (B s p) = 0 then (⟨0, 0, 0, ByteArray.empty, 0, 0⟩, p, false)
  else (⟨signN (B s p), p, p + 1, ByteArray.empty, 0, 0⟩, p + 1, true)

/-- All words from place p on, behind those that were found; or the first wrong place. -/
def lexGo (s : ByteArray) : Nat → Nat → List Wd → List Wd × Option Nat
  | 0, _, l => (l, none)
  | f + 1, p, l =>
    if p < s.size then
      (if blankB (B s p) then lexGo s f (p + 1) l
       else if B s p = 35 then (if (remarkN s p).2 then lexGo s f (remarkN s p).1 l else (l, some (remarkN s p).1))
       else if (wordN s p).2.2 then lexGo s f (wordN s p).2.1 (l ++ [(wordN s p).1]) else (l, some (wordN s p).2.1))
    else (l, none)
def lexN (s : ByteArray) : List Wd × Option Nat := lexGo s s.size 0 []

end Go.Proofs.YtpdaciljdcfikaaDoor
