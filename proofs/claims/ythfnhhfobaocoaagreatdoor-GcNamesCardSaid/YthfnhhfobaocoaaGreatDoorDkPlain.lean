/-
  The disk of chapter 5 as a plain value, and what each call makes of it. No program stands in this text.
-/
import Derived.Maps.Views
namespace Go.Proofs.YthfnhhfobaocoaaGreatDoor.Dk

/-- A directory: labels rising, each with its file's number. -/
abbrev DM := List (List UInt8 × Nat)
def toD (m : DM) : DataW Unit := .map (m.map fun p => (.string p.1, .lit (.int .i64 (p.2 : Int))))
def lt (a b : List UInt8) : Bool := (Lit.string a).before (.string b)
def insM (k : List UInt8) (n : Nat) : DM → DM
  | [] => [(k, n)]
  | y :: r => if lt k y.1 then (k, n) :: y :: r else y :: insM k n r
def delM (m : DM) (k : List UInt8) : DM := m.filter fun p => !(p.1 == k)
def putM (m : DM) (k : List UInt8) (n : Nat) : DM := insM k n (delM m k)
def getM (m : DM) (k : List UInt8) : Option Nat := (m.find? fun p => p.1 == k).map (·.2)

theorem sameKey_string (a b : List UInt8) : (Lit.string a).sameKey (.string b) = (a == b) := by
  simp [Lit.sameKey]

theorem toD_ins (k : List UInt8) (n : Nat) : ∀ m : DM, DataW.insert ((.string k, .lit (.int .i64 (n : Int))) : Lit × DataW Unit) (m.map fun p => (Lit.string p.1, DataW.lit (.int .i64 (p.2 : Int)))) = (insM k n m).map fun p => (Lit.string p.1, DataW.lit (.int .i64 (p.2 : Int)))
  | [] => rfl
  | y :: r => by
    rw [List.map_cons, DataW.insert, insM]
    by_cases h : lt k y.1 = true
    · rw [if_pos h, if_pos (by exact h)]; rfl
    · rw [if_neg h, if_neg (by exact h), toD_ins k n r]; rfl
theorem toD_filter (k : List UInt8) (m : DM) : ((m.map fun p => ((Lit.string p.1, DataW.lit (.int .i64 (p.2 : Int))) : Lit × DataW Unit)).filter fun p => !p.1.sameKey (.string k)) = (delM m k).map fun p => (Lit.string p.1, DataW.lit (.int .i64 (p.2 : Int))) := by
  rw [delM, List.filter_map]
  congr 1
theorem toD_del (m : DM) (k : List UInt8) : (toD m).del (.string k) = toD (delM m k) := by
  rw [toD, DataW.del, toD_filter]; rfl
theorem toD_put (m : DM) (k : List UInt8) (n : Nat) : (toD m).put (.string k) (.lit (.int .i64 (n : Int))) = toD (putM m k n) := by
  rw [toD, DataW.put, toD_filter, toD_ins]; rfl
theorem toD_find (m : DM) (k : List UInt8) : (m.map fun p => ((Lit.string p.1, DataW.lit (.int .i64 (p.2 : Int))) : Lit × DataW Unit)).find? (fun p => p.1.sameKey (.string k)) = (m.find? fun p => p.1 == k).map fun p => (Lit.string p.1, DataW.lit (.int .i64 (p.2 : Int))) := by
  rw [List.find?_map]
  congr 1
theorem toD_at (m : DM) (k : List UInt8) : (toD m).atKey (.string k) (.lit (.int .i64 0)) = .lit (.int .i64 (((getM m k).getD 0 : Nat) : Int)) := by
  rw [toD, DataW.atKey, toD_find, getM]
  cases m.find? fun p => p.1 == k <;> rfl
theorem toD_has (m : DM) (k : List UInt8) : Maps.has (toD m) (.string k) = (getM m k).isSome := by
  rw [toD, Maps.has_eq, getM, Option.isSome_map, List.any_map]
  induction m with
  | nil => rfl
  | cons y r ih =>
    rw [List.any_cons, List.find?_cons, ih]
    simp only [Function.comp, sameKey_string]
    cases h : y.1 == k <;> simp
theorem toD_size (m : DM) : Maps.size (toD m) = m.length := by rw [toD, Maps.size_eq, List.length_map]
theorem toD_nil : toD [] = .map [] := rfl

/-- A file: its bytes, and how many of them are safe. -/
structure Fl where
  data : List UInt8
  safe : Nat

/-- Something that was done to the directory. -/
inductive Ch where
  | put (k : List UInt8) (n : Nat)
  | ren (a b : List UInt8)
  | del (k : List UInt8)

def Ch.on (m : DM) : Ch → DM
  | .put k n => putM m k n
  | .ren a b => delM (putM m b ((getM m a).getD 0)) a
  | .del k => delM m k

structure Dk where
  quota : Int
  used : Int
  files : List Fl
  now : DM
  safe : DM
  chs : List Ch
  calls : Nat
  left : Nat
  next : Int × List Int
  crash : Int × List Int
  down : Bool

def fileLen (fs : List Fl) (n : Nat) : Nat := ((fs[n]?).map fun f => f.data.length).getD 0
def usedOf (fs : List Fl) (m : DM) : Int := ((m.map fun p => (fileLen fs p.2 : Int)).sum)

def okc (c : UInt8) : Bool := (decide (97 ≤ c.toNat) && decide (c.toNat ≤ 122)) || (decide (48 ≤ c.toNat) && decide (c.toNat ≤ 57)) || c == 46 || c == 45
def label (l : List UInt8) : Bool := !(l == []) && decide (l.length ≤ 200) && l.all okc

/-- A counted call: what it answers, and what is left. -/
def count (D : Dk) : Int × Dk :=
  if D.down then (8, D) else
  let left := D.left - 1
  let down := decide (D.left = 1)
  if down then (8, { D with calls := D.calls + 1, left := left, down := true, crash := D.next }) else (0, { D with calls := D.calls + 1, left := left })

def turn (D : Dk) (c : Ch) : Dk :=
  let now := c.on D.now
  { D with now := now, chs := D.chs ++ [c], used := usedOf D.files now }

def create (D : Dk) (k : List UInt8) : Int × Dk :=
  let (e, D) := count D
  if e ≠ 0 then (e, D) else
  if !label k then (10, D) else if (getM D.now k).isSome then (7, D) else if 4096 ≤ D.now.length then (3, D) else
  (0, turn { D with files := D.files ++ [⟨[], 0⟩] } (.put k D.files.length))

/-- The file that a label names, in a counted call. -/
def openF (D : Dk) (k : List UInt8) : (Option Nat × Int) × Dk :=
  let (e, D) := count D
  if e ≠ 0 then ((none, e), D) else
  match getM D.now k with
  | none => ((none, 6), D)
  | some n => ((some n, 0), D)

def putFile (D : Dk) (n : Nat) (f : Fl) : Dk := { D with files := D.files.set n f }

def append (D : Dk) (k d : List UInt8) : Int × Dk :=
  let ((o, e), D) := openF D k
  match o with
  | none => (e, D)
  | some n =>
    let f := D.files.getD n ⟨[], 0⟩
    if 134217728 < f.data.length + d.length then (1, D) else
    if D.quota - D.used < d.length then (3, D) else
    (0, { putFile D n { f with data := f.data ++ d } with used := D.used + d.length })

def read (D : Dk) (k : List UInt8) (off n : Int) : (List UInt8 × Int) × Dk :=
  let ((o, e), D) := openF D k
  match o with
  | none => (([], e), D)
  | some i =>
    let f := D.files.getD i ⟨[], 0⟩
    if off < 0 ∨ n < 0 ∨ (f.data.length : Int) < off ∨ (f.data.length : Int) - off < n then (([], 1), D) else
    (((f.data.drop off.toNat).take n.toNat, 0), D)

def size (D : Dk) (k : List UInt8) : (Int × Int) × Dk :=
  let ((o, e), D) := openF D k
  match o with
  | none => ((0, e), D)
  | some i => (((D.files.getD i ⟨[], 0⟩).data.length, 0), D)

def sync (D : Dk) (k : List UInt8) : Int × Dk :=
  let ((o, e), D) := openF D k
  match o with
  | none => (e, D)
  | some n =>
    let f := D.files.getD n ⟨[], 0⟩
    (0, putFile D n { f with safe := f.data.length })

def syncDir (D : Dk) : Int × Dk :=
  let (e, D) := count D
  if e ≠ 0 then (e, D) else (0, { D with safe := D.now, chs := [] })

def rename (D : Dk) (a b : List UInt8) : Int × Dk :=
  let ((o, e), D) := openF D a
  match o with
  | none => (e, D)
  | some _ => if !label b then (10, D) else if a = b then (0, D) else (0, turn D (.ren a b))

def remove (D : Dk) (k : List UInt8) : Int × Dk :=
  let ((o, e), D) := openF D k
  match o with
  | none => (e, D)
  | some _ => (0, turn D (.del k))

def list (D : Dk) : (List (List UInt8) × Int) × Dk :=
  let (e, D) := count D
  if e ≠ 0 then (([], e), D) else ((D.now.map (·.1), 0), D)

def plan (D : Dk) (at' : Int) (c : Int × List Int) : Int × Dk :=
  if at' < 0 ∨ 1073741824 < at' then (1, D) else (0, { D with left := at'.toNat, next := c })

def pull (D : Dk) (c : Int × List Int) : Int × Dk :=
  if D.down then (8, D) else (0, { D with down := true, crash := c })

def filesOf (D : Dk) : List (List UInt8 × List UInt8 × Nat) :=
  D.now.map fun p => let f := D.files.getD p.2 ⟨[], 0⟩; (p.1, f.data, f.safe)

/-- What survives of a file: its safe bytes, and some behind. -/
def cutTo (f : Fl) (keep : Int) : Fl :=
  let n := f.safe + (keep % ((f.data.length : Int) - f.safe + 1)).toNat
  ⟨f.data.take n, n⟩

def keepAt (l : List Int) (i : Nat) : Int := if l.length = 0 then 0 else l.getD (i % l.length) 0

/-- The numbers' files, each cut. -/
def cutAll (keep : List Int) : Nat → List Nat → List Fl → List Fl
  | _, [], fs => fs
  | i, n :: r, fs => cutAll keep (i + 1) r (fs.set n (cutTo (fs.getD n ⟨[], 0⟩) (keepAt keep i)))

def restart (D : Dk) : Int × Dk :=
  if !D.down then (5, D) else
  let l := (D.chs.take (D.crash.1 % ((D.chs.length : Int) + 1)).toNat).foldl Ch.on D.safe
  let fs := cutAll D.crash.2 0 ((l.map (·.2)).mergeSort (fun x y => decide (x ≤ y))) D.files
  (0, { D with now := l, safe := l, chs := [], down := false, left := 0, files := fs, used := usedOf fs l })

def corrupt (D : Dk) (k : List UInt8) (at' : Int) (d : List UInt8) : Int × Dk :=
  if D.down then (8, D) else
  match getM D.now k with
  | none => (6, D)
  | some n =>
    let f := D.files.getD n ⟨[], 0⟩
    if at' < 0 ∨ (f.data.length : Int) < at' ∨ (f.data.length : Int) - at' < d.length then (1, D) else
    (0, putFile D n { f with data := f.data.take at'.toNat ++ d ++ f.data.drop (at'.toNat + d.length) })
end Go.Proofs.YthfnhhfobaocoaaGreatDoor.Dk
