/- A submission as a value of the codec: plain words. -/
import Derived.Test.YtnbbleajbbgmjaaDoorCdW3
import Derived.Test.YtnbbleajbbgmjaaDoorCdT2
namespace Go.Proofs.YtnbbleajbbgmjaaDoor
open Go.RowKit
set_option linter.unusedVariables false

/-- a number, numbers as a list, a submission -/
def Rc.int (n : Int) : Cd.T := .mk 1 n [] []
def Rc.ints (l : List Int) : Cd.T := .mk 3 0 [] (l.map Rc.int)
def Rc.sub (no comp puz : Int) (grid : List Int) : Cd.T := .mk 3 0 [] [Rc.int no, Rc.int comp, Rc.int puz, Rc.ints grid]
theorem Rc.int_fd (n : Int) : (Rc.int n).fd = some 0 := by simp [Rc.int, Cd.T.fd]
theorem Rc.int_hgt (n : Int) : (Rc.int n).hgt = 1 := by simp [Rc.int, Cd.T.hgt, Cd.T.hgts]
theorem Rc.int_len (n : Int) : (Rc.int n).enc.length ≤ 11 := by
  have h := Cd.num_len (Cd.uns n)
  rw [Rc.int, Cd.enc_1 rfl, List.length_cons]
  show (Cd.num (Cd.uns n)).length + 1 ≤ _
  omega
theorem Rc.ints_fds (l : List Int) : Cd.T.fds (l.map Rc.int) = some 0 := by
  induction l with
  | nil => rfl
  | cons x l ih => rw [List.map_cons, Cd.T.fds, Rc.int_fd, ih]; rfl
theorem Rc.ints_hgts (l : List Int) : Cd.T.hgts (l.map Rc.int) ≤ 1 := by
  induction l with
  | nil => simp [Cd.T.hgts]
  | cons x l ih => rw [List.map_cons, Cd.T.hgts, Rc.int_hgt]; omega
theorem Rc.ints_encs (l : List Int) : (Cd.T.encs (l.map Rc.int)).length ≤ 11 * l.length := by
  induction l with
  | nil => simp [Cd.T.encs]
  | cons x l ih =>
    have h := Rc.int_len x
    rw [List.map_cons, Cd.T.encs, List.length_append, List.length_cons]
    omega
theorem Rc.ints_fd (l : List Int) : (Rc.ints l).fd = some 1 := by
  rw [Rc.ints, Cd.T.fd]
  simp [Rc.ints_fds]
theorem Rc.ints_len (l : List Int) : (Rc.ints l).enc.length ≤ 11 * l.length + 11 := by
  have h1 := Cd.num_len (l.map Rc.int).length
  have h2 := Rc.ints_encs l
  rw [Rc.ints, Cd.enc_3 rfl]
  simp only [Cd.T.l, List.length_cons, List.length_append]
  omega
theorem Rc.sub_chk (no comp puz : Int) (grid : List Int) : Cd.chkE (Rc.sub no comp puz grid) = 0 := by
  have h : (Rc.sub no comp puz grid).fd = some 2 := by
    rw [Rc.sub, Cd.T.fd]
    simp [Cd.T.fds, Rc.int_fd, Rc.ints_fd]
  unfold Cd.chkE
  rw [h]
  rfl
theorem Rc.sub_small (no comp puz : Int) (grid : List Int) (hg : grid.length ≤ 1000) : (Rc.sub no comp puz grid).hgt ≤ 1000000 ∧ (Rc.sub no comp puz grid).enc.length ≤ 90000000 := by
  constructor
  · have h := Rc.ints_hgts grid
    simp only [Rc.sub, Cd.T.hgt, Cd.T.hgts, Rc.int_hgt, Rc.ints]
    omega
  · have h1 := Rc.int_len no
    have h2 := Rc.int_len comp
    have h3 := Rc.int_len puz
    have h4 := Rc.ints_len grid
    have h5 := Cd.num_len ([Rc.int no, Rc.int comp, Rc.int puz, Rc.ints grid] : List Cd.T).length
    rw [Rc.sub, Cd.enc_3 rfl]
    simp only [Cd.T.l, Cd.T.encs, List.length_cons, List.length_append, List.length_nil] at h5 ⊢
    omega
end Go.Proofs.YtnbbleajbbgmjaaDoor
