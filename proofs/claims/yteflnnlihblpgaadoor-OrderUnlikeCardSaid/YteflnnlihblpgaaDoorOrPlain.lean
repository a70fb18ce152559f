/-
  Package order, in plain words: an entry; its form.
-/
namespace Go.Proofs.YteflnnlihblpgaaDoor
set_option linter.unusedVariables false
structure Tk where
  C : Int
  P : Int
  D : Int
  S : Int
deriving DecidableEq
/-- An entry: who, which, and the order. -/
structure En where
  cl : Int
  nu : Int
  kd : Int
  id : Int
  sk : Int
  sq : Int
  st : Int
  pol : Int
  at_ : Int
  ts : List Tk
deriving DecidableEq
/-- 0 to MaxTime. -/
def fitI (x : Int) : Bool := decide (0 ≤ x ∧ x ≤ 1099511627776)
def fitL (l : List Int) : Bool := l.all fitI
def Tk.ns (t : Tk) : List Int := [t.C, t.P, t.D, t.S]
def Tk.fit (t : Tk) : Bool := fitL t.ns
def En.noServer (e : En) : Bool := decide (e.sk = 0 ∧ e.sq = 0 ∧ e.st = 0)
def En.noGuest (e : En) : Bool := decide (e.pol = 0) && decide (e.ts.length = 0)
/-- An order's form. -/
def En.ord (e : En) : Bool :=
  fitL [e.at_, e.id] &&
    if e.kd = 1 ∨ e.kd = 2 then e.noGuest && fitL [e.sk, e.sq, e.st]
    else if e.kd = 3 then e.noGuest && e.noServer
    else if e.kd = 4 then e.noServer && fitL [e.pol] && decide (e.ts.length ≤ 8) && e.ts.all Tk.fit
    else false
def En.form (e : En) : Bool := decide (0 ≤ e.cl ∧ e.cl < 16 ∧ 1 ≤ e.nu ∧ e.nu ≤ 1099511627776) && e.ord
end Go.Proofs.YteflnnlihblpgaaDoor
