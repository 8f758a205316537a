/- The machine, plainly: the program's way and the reference's. Conditions: none; plain lemmas. -/
import Derived.Test.YtobikkdnalnllaaQa
namespace Go.Proofs.Ytobikkdnalnllaa
open Go.RowKit SL
set_option linter.unusedVariables false
set_option linter.unusedSimpArgs false
/-! The machine, plainly: the program's way. -/
structure Ev where
  k : Int
  f : Int
  v : Int
structure Ci where
  fn : Int
  up : Int
  df : Bool
  en : Int
  va : Int
  ar : Int
structure Pn where
  ca : Int
  fn : Int
  va : Int
  de : Int
  fa : Int
  by_ : Int
  la : Int
  ag : Bool
  un : List Int
structure Rc where
  ca : Int
  sa : Int
  pa : Int
structure Ma where
  made : Nat
  shared : Int
  depth : Nat
  deepest : Nat
  trace : List Ev
  owners : List Int
  calls : List Ci
  panics : List Pn
  recs : List Rc
structure Fr where
  id : Nat
  fn : Int
  regs : List Int
  runs : List (Int × Int)
  df : Bool
  ct : Bool
  lv : Bool
  en : Int
  pa : Int
inductive Out (α : Type) where
  | spent (m : Ma)
  | ok (m : Ma) (a : α)
def w16 (n : Int) : Int := (n + 32768) % 65536 - 32768
def regAt (rs : List Int) (a : Int) : Int := rs.getD a.toNat 0
def regSet (rs : List Int) (a x : Int) : List Int := rs.set a.toNat x
def bodyOf (L : List (List St)) (fn : Int) : List St := L.getD fn.toNat []
def pnAt (m : Ma) (k : Int) : Pn := m.panics.getD k.toNat ⟨0, 0, 0, 0, 0, 0, 0, false, []⟩
def pnSet (m : Ma) (k : Int) (g : Pn → Pn) : Ma := { m with panics := m.panics.set k.toNat (g (pnAt m k)) }
def tellM (m : Ma) (k f v : Int) (o : Nat) : Ma := { m with trace := m.trace ++ [⟨k, f, v⟩], owners := m.owners ++ [(o : Int)] }
/-- The number of the call that makes one. -/
def upOf : Option Fr → Int
  | some p => (p.id : Int)
  | none => -1
def startM (m : Ma) (fn arg : Int) (par : Option Fr) (df : Bool) : Ma × Fr :=
  let m1 : Ma := { m with calls := m.calls ++ [⟨fn, upOf par, df, 4, 0, arg⟩] }
  let m2 := tellM m1 (if df then 3 else 1) fn arg m.calls.length
  ({ m2 with depth := m.depth + 1, deepest := max m.deepest (m.depth + 1) }, ⟨m.calls.length, fn, [arg, 0, 0, 0], [], df, false, false, 1, -1⟩)
/-- A step that is no call and no jump. -/
def stepM (m : Ma) (f : Fr) (par : Option Fr) (s : St) : Ma × Fr × Option Fr × Bool :=
  if s.k = 1 then (m, { f with regs := regSet f.regs s.a s.b }, par, false)
  else if s.k = 2 then (m, { f with regs := regSet f.regs s.a (w16 (regAt f.regs s.a + regAt f.regs s.b)) }, par, false)
  else if s.k = 3 then (tellM m 4 f.fn (regAt f.regs s.a) f.id, f, par, false)
  else if s.k = 5 then (tellM m 2 s.a (regAt f.regs s.b) f.id, { f with runs := f.runs ++ [(s.a, regAt f.regs s.b)] }, par, false)
  else if s.k = 6 then (tellM { m with panics := m.panics ++ [⟨f.id, f.fn, regAt f.regs s.a, m.depth, 0, -1, -1, f.ct, []⟩] } 5 f.fn (regAt f.regs s.a) f.id, { f with en := 2, pa := m.panics.length }, par, true)
  else if s.k = 7 then
    match par with
    | some p =>
      if f.df && !f.ct && p.en == 2 then
        (tellM { pnSet m p.pa (fun x => { x with fa := 1 }) with recs := m.recs ++ [⟨f.id, p.id, p.pa⟩] } 6 f.fn (pnAt m p.pa).va f.id,
          { f with ct := true, regs := regSet (regSet f.regs s.a (pnAt m p.pa).va) 3 1 }, par, false)
      else (m, { f with regs := regSet (regSet f.regs s.a 0) 3 0 }, par, false)
    | none => (m, { f with regs := regSet (regSet f.regs s.a 0) 3 0 }, par, false)
  else if s.k = 8 then (m, { f with regs := regSet f.regs 1 (regAt f.regs s.a) }, par, true)
  else if s.k = 9 then
    match par with
    | some p => if f.df then (m, f, some { p with regs := regSet p.regs 1 (regAt f.regs s.a) }, false) else (m, f, par, false)
    | none => (m, f, par, false)
  else if s.k = 10 then (m, { f with lv := true, en := 3 }, par, true)
  else if s.k = 12 then ({ m with shared := regAt f.regs s.a }, f, par, false)
  else if s.k = 13 then (m, { f with regs := regSet f.regs s.a m.shared }, par, false)
  else (m, f, par, false)
abbrev CallM := Ma → Int → Int → Option Fr → Bool → Out (Option Fr × Fr)
/-- Behind a call that is no deferred one. -/
def innerM (f d : Fr) : Fr × Bool :=
  let f1 : Fr := { f with lv := f.lv || d.lv }
  if d.en = 1 then ({ f1 with regs := regSet f1.regs 2 (regAt d.regs 1) }, false) else ({ f1 with en := d.en, pa := d.pa }, true)
def bodyM (call : CallM) (L : List (List St)) (fuel : Nat) : Nat → Ma → Fr → Option Fr → Nat → Out (Fr × Option Fr)
  | 0, m, _, _, _ => .spent m
  | n + 1, m, f, par, at_ =>
    match (bodyOf L f.fn)[at_]? with
    | none => .ok m (f, par)
    | some s =>
      if m.made = fuel then .spent m
      else
        let m1 : Ma := { m with made := m.made + 1 }
        if s.k = 11 then bodyM call L fuel n m1 f par (if regAt f.regs s.b > 0 then s.a.toNat else at_ + 1)
        else if s.k = 4 then
          match call m1 s.a (regAt f.regs s.b) (some f) false with
          | .spent m2 => .spent m2
          | .ok m2 (pf, d) =>
            let r := innerM (pf.getD f) d
            if r.2 then .ok m2 (r.1, par) else bodyM call L fuel n m2 r.1 par (at_ + 1)
        else
          let r := stepM m1 f par s
          if r.2.2.2 then .ok r.1 (r.2.1, r.2.2.1) else bodyM call L fuel n r.1 r.2.1 r.2.2.1 (at_ + 1)
/-- Behind a deferred call. -/
def behindM (m : Ma) (f d : Fr) : Ma × Fr :=
  let f1 : Fr := { f with lv := f.lv || d.lv }
  let on := f.en == 2 && !d.ct
  if d.en = 2 then
    (if on then pnSet (pnSet m f.pa (fun x => { x with fa := 2, by_ := d.pa })) d.pa (fun x => { x with la := f.pa }) else m, { f1 with en := 2, pa := d.pa })
  else if d.en = 3 then
    (if on then pnSet m f.pa (fun x => { x with fa := 4 }) else m, { f1 with en := 3 })
  else if d.ct && f1.lv then (m, { f1 with en := 3 })
  else if d.ct then (m, { f1 with en := 1 })
  else (m, f1)
def runsM (call : CallM) : Nat → Ma → Fr → Out Fr
  | 0, m, f => .ok m f
  | n + 1, m, f =>
    let last := f.runs.getD n (0, 0)
    match call m last.1 last.2 (some { f with runs := f.runs.take n }) true with
    | .spent m2 => .spent m2
    | .ok m2 (pf, d) =>
      let r := behindM m2 (pf.getD f) d
      runsM call n r.1 r.2
def endKind (en : Int) : Int := if en = 1 then 7 else if en = 2 then 8 else 9
def endVal (m : Ma) (f : Fr) : Int := if f.en = 1 then regAt f.regs 1 else if f.en = 2 then (pnAt m f.pa).va else 0
def ciSet (m : Ma) (k : Nat) (g : Ci → Ci) : Ma := { m with calls := m.calls.set k (g (m.calls.getD k ⟨0, 0, false, 0, 0, 0⟩)) }
def finishM (m : Ma) (f : Fr) : Ma :=
  let m1 := if f.en = 2 then pnSet m f.pa (fun x => { x with un := x.un ++ [f.fn] }) else m
  tellM (ciSet m1 f.id (fun c => { c with en := f.en, va := endVal m f })) (endKind f.en) f.fn (endVal m f) f.id
def callM (L : List (List St)) (fuel : Nat) : Nat → CallM
  | 0, m, _, _, _, _ => .spent m
  | d + 1, m, fn, arg, par, df =>
    let s := startM m fn arg par df
    match bodyM (callM L fuel d) L fuel (fuel + 1) s.1 s.2 par 0 with
    | .spent m2 => .spent m2
    | .ok m2 (f, par2) =>
      match runsM (callM L fuel d) f.runs.length m2 f with
      | .spent m3 => .spent m3
      | .ok m3 f3 =>
        let m4 := finishM m3 f3
        .ok { m4 with depth := m4.depth - 1 } (par2, f3)
def zeroM (shared : Int) : Ma := ⟨0, shared, 0, 0, [], [], [], [], []⟩
structure Run where
  m : Ma
  kind : Int
  val : Int
def ranM (L : List (List St)) (fn arg : Int) (fuel : Nat) : Run :=
  match callM L fuel 8 (zeroM 0) fn arg none false with
  | .spent m => ⟨m, 4, 0⟩
  | .ok m (_, f) => ⟨if f.en = 2 then pnSet m f.pa (fun x => { x with fa := 3 }) else m, f.en, (m.calls.getD 0 ⟨0, 0, false, 0, 0, 0⟩).va⟩
/-! The reference's way. -/
structure SM where
  spent : Bool
  shared : Int
  made : Nat
  deep : Int
  trace : List Ev
  seen : List (Int × Int)
structure SF where
  f : Int
  depth : Int
  regs : List Int
  defers : List (Int × Int)
  kind : Int
  value : Int
  lv : Bool
  df : Bool
  pg : Bool
  pa : Int
  rc : Bool
  outer : Int
def w16s (n : Int) : Int := (n + 163840) % 65536 - 32768
def tellS (m : SM) (k f v : Int) : SM := { m with trace := m.trace ++ [⟨k, f, v⟩] }
def simpleS (m : SM) (c : SF) (s : St) : SM × SF :=
  if s.k = 1 then (m, { c with regs := regSet c.regs s.a s.b })
  else if s.k = 2 then (m, { c with regs := regSet c.regs s.a (w16s (regAt c.regs s.a + regAt c.regs s.b)) })
  else if s.k = 3 then (tellS m 4 c.f (regAt c.regs s.a), c)
  else if s.k = 9 then (m, if c.df then { c with outer := regAt c.regs s.a } else c)
  else if s.k = 12 then ({ m with shared := regAt c.regs s.a }, c)
  else if s.k = 13 then (m, { c with regs := regSet c.regs s.a m.shared })
  else if s.k = 7 then
    if c.pg && !c.rc then (tellS m 6 c.f c.pa, { c with rc := true, regs := regSet (regSet c.regs s.a c.pa) 3 1 })
    else (m, { c with regs := regSet (regSet c.regs s.a 0) 3 0 })
  else (m, c)
abbrev CallS := SM → SF → SM × SF
def innerR (c : SF) (r : SM × SF) (at_ : Int) : SM × SF × Int :=
  if r.2.kind = 1 then (r.1, { c with regs := regSet c.regs 2 (regAt r.2.regs 1) }, at_ + 1)
  else
    let c1 := if r.2.kind = 2 then { c with kind := 2, value := r.2.value } else if r.2.kind = 3 then { c with kind := 3 } else c
    (r.1, { c1 with lv := c1.lv || r.2.lv }, -1)
def freshIn (c : SF) (s : St) : SF := ⟨s.a, c.depth + 1, [regAt c.regs s.b, 0, 0, 0], [], 0, 0, false, false, false, 0, false, 0⟩
def innerS (call : CallS) (m : SM) (c : SF) (at_ : Int) (s : St) : SM × SF × Int := innerR c (call m (freshIn c s)) at_
def makeS (call : CallS) (m : SM) (c : SF) (at_ : Int) (s : St) : SM × SF × Int :=
  if s.k = 4 then innerS call m c at_ s
  else if s.k = 5 then (tellS m 2 s.a (regAt c.regs s.b), { c with defers := c.defers ++ [(s.a, regAt c.regs s.b)] }, at_ + 1)
  else if s.k = 6 then (tellS m 5 c.f (regAt c.regs s.a), { c with kind := 2, value := regAt c.regs s.a }, -1)
  else if s.k = 8 then (m, { c with regs := regSet c.regs 1 (regAt c.regs s.a) }, -1)
  else if s.k = 10 then (m, { c with kind := 3, lv := true }, -1)
  else if s.k = 11 then (m, c, if regAt c.regs s.b > 0 then s.a else at_ + 1)
  else let r := simpleS m c s; (r.1, r.2, at_ + 1)
/-- The body: (m, c); m.spent says whether all is spent. -/
def loopS (call : CallS) (L : List (List St)) (fuel : Nat) : Nat → SM → SF → Int → SM × SF
  | 0, m, c, _ => (m, c)
  | n + 1, m, c, at_ =>
    if at_ < 0 then (m, c)
    else match (bodyOf L c.f)[at_.toNat]? with
    | none => (m, c)
    | some s =>
      if m.made = fuel then ({ m with spent := true }, c)
      else
        let r := makeS call { m with made := m.made + 1, seen := m.seen ++ [(c.f, at_)] } c at_ s
        if r.1.spent then (r.1, r.2.1) else loopS call L fuel n r.1 r.2.1 r.2.2
def lastS (call : CallS) (m : SM) (c : SF) : SM × SF :=
  let n := c.defers.length - 1
  let next := c.defers.getD n (0, 0)
  let c1 := { c with defers := c.defers.take n }
  let r := call m ⟨next.1, c.depth + 1, [next.2, 0, 0, 0], [], 0, 0, false, true, c.kind == 2, if c.kind = 2 then c.value else 0, false, regAt c.regs 1⟩
  if r.1.spent then (r.1, c1)
  else
    let c2 := { c1 with regs := regSet c1.regs 1 r.2.outer, lv := c1.lv || r.2.lv }
    let c3 := if r.2.rc then { c2 with kind := if c2.lv then 3 else 1 } else c2
    let c4 := if r.2.kind = 2 then { c3 with kind := 2, value := r.2.value } else c3
    (r.1, if r.2.kind = 3 then { c4 with kind := 3 } else c4)
def restS (call : CallS) : Nat → SM → SF → SM × SF
  | 0, m, c => (m, c)
  | n + 1, m, c =>
    let r := lastS call m c
    if r.1.spent then r else restS call n r.1 r.2
def endS (m : SM) (c : SF) : SM :=
  if c.kind = 1 then tellS m 7 c.f (regAt c.regs 1) else if c.kind = 2 then tellS m 8 c.f c.value else if c.kind = 3 then tellS m 9 c.f 0 else m
def callS (L : List (List St)) (fuel : Nat) : Nat → CallS
  | 0, m, c => ({ m with spent := true }, c)
  | d + 1, m, c =>
    let m1 := tellS { m with deep := max m.deep c.depth } (if c.df then 3 else 1) c.f (regAt c.regs 0)
    let r := loopS (callS L fuel d) L fuel (fuel + 1) m1 { c with kind := 1 } 0
    if r.1.spent then r
    else
      let q := restS (callS L fuel d) r.2.defers.length r.1 r.2
      if q.1.spent then q else (endS q.1 q.2, q.2)
def wholeS (L : List (List St)) (fn arg : Int) (fuel : Nat) : SM × SF :=
  callS L fuel 8 ⟨false, 0, 0, 0, [], []⟩ ⟨fn, 1, [arg, 0, 0, 0], [], 0, 0, false, false, false, 0, false, 0⟩
structure ToldS where
  kind : Int
  val : Int
def toldS (m : SM) (c : SF) : ToldS :=
  if m.spent then ⟨4, 0⟩ else if c.kind = 1 then ⟨1, regAt c.regs 1⟩ else if c.kind = 2 then ⟨2, c.value⟩ else ⟨c.kind, 0⟩
end Go.Proofs.Ytobikkdnalnllaa
namespace Go.Proofs.Ytobikkdnalnllaa
open Go.RowKit SL
set_option linter.unusedVariables false
set_option linter.unusedSimpArgs false
/-! The two ways are one. -/
def PanOk (m : Ma) (k v : Int) : Prop := 0 ≤ k ∧ k.toNat < m.panics.length ∧ (pnAt m k).va = v
def PanLe (m m' : Ma) : Prop := ∀ k v, PanOk m k v → PanOk m' k v
theorem PanLe.refl (m : Ma) : PanLe m m := fun _ _ h => h
theorem PanLe.trans {a b c : Ma} (h : PanLe a b) (h' : PanLe b c) : PanLe a c := fun k v x => h' k v (h k v x)
theorem PanLe.of_eq {m m' : Ma} (h : m'.panics = m.panics) : PanLe m m' := fun k v x => by unfold PanOk pnAt at *; rw [h]; exact x
theorem pnSet_len (m : Ma) (k : Int) (g : Pn → Pn) : (pnSet m k g).panics.length = m.panics.length := by simp [pnSet]
theorem PanLe.set (m : Ma) (k : Int) (g : Pn → Pn) (hg : ∀ x, (g x).va = x.va) : PanLe m (pnSet m k g) := fun j v ⟨h1, h2, h3⟩ => by
  refine ⟨h1, by rw [pnSet_len]; exact h2, ?_⟩
  rw [← h3]
  unfold pnAt pnSet
  simp only
  rw [List.getD_eq_getElem?_getD, List.getD_eq_getElem?_getD, List.getElem?_set]
  split
  · rename_i e
    split
    · rw [← e]; simp only [Option.getD_some, hg]; unfold pnAt; rw [List.getD_eq_getElem?_getD]
    · rename_i h; rw [e] at h; omega
  · rfl
theorem PanLe.push (m : Ma) (x : Pn) (m' : Ma) (h : m'.panics = m.panics ++ [x]) : PanLe m m' := fun j v ⟨h1, h2, h3⟩ => by
  refine ⟨h1, by rw [h]; simp; omega, ?_⟩
  rw [← h3]; unfold pnAt; rw [h, List.getD_eq_getElem?_getD, List.getElem?_append_left h2, ← List.getD_eq_getElem?_getD]
theorem PanOk.new (m m' : Ma) (x : Pn) (h : m'.panics = m.panics ++ [x]) : PanOk m' (m.panics.length : Nat) x.va := by
  refine ⟨by omega, by rw [h]; simp, ?_⟩
  unfold pnAt; rw [h, List.getD_eq_getElem?_getD, List.getElem?_append_right (by simp)]; simp
structure RelM (m : Ma) (s : SM) : Prop where
  go : s.spent = false
  shared : s.shared = m.shared
  made : s.made = m.made
  deep : s.deep = m.deepest
  trace : s.trace = m.trace
structure RelX (m : Ma) (s : SM) : Prop where
  stop : s.spent = true
  made : s.made = m.made
  deep : s.deep = m.deepest
  trace : s.trace = m.trace
structure RelF (m : Ma) (dep : Nat) (p0 : Option Fr) (df : Bool) (f : Fr) (par : Option Fr) (c : SF) : Prop where
  qf : c.f = f.fn
  qd : c.depth = (dep : Int)
  qr : c.regs = f.regs
  ql : f.regs.length = 4
  qn : c.defers = f.runs
  qk : c.kind = f.en
  qe : f.en = 1 ∨ f.en = 2 ∨ f.en = 3
  qv : f.en = 2 → PanOk m f.pa c.value
  qw : c.lv = f.lv
  qx : f.en = 1 → f.lv = false
  qy : c.df = df
  qg : f.df = df
  qz : c.rc = f.ct
  qp : (df = false ∧ par = p0 ∧ c.pg = false) ∨ (df = true ∧ ∃ p, p0 = some p ∧ par = some { p with regs := regSet p.regs 1 c.outer } ∧ c.pg = (p.en == 2) ∧ (p.en = 2 → PanOk m p.pa c.pa))
theorem RelF.mono {m m' : Ma} {dep : Nat} {p0 : Option Fr} {df : Bool} {f : Fr} {par : Option Fr} {c : SF} (h : RelF m dep p0 df f par c) (hl : PanLe m m') : RelF m' dep p0 df f par c := by
  have h1 : f.en = 2 → PanOk m' f.pa c.value := fun e => hl _ _ (h.qv e)
  have h2 : (df = false ∧ par = p0 ∧ c.pg = false) ∨ (df = true ∧ ∃ p, p0 = some p ∧ par = some { p with regs := regSet p.regs 1 c.outer } ∧ c.pg = (p.en == 2) ∧ (p.en = 2 → PanOk m' p.pa c.pa)) := by
    rcases h.qp with h' | ⟨h1, p, h2, h3, h4, h5⟩
    · exact .inl h'
    · exact .inr ⟨h1, p, h2, h3, h4, fun e => hl _ _ (h5 e)⟩
  exact { h with qv := h1, qp := h2 }
/-- What two calls have in common, at their begin. -/
structure Fresh (m : Ma) (fn arg : Int) (p0 : Option Fr) (df : Bool) (c : SF) : Prop where
  qf : c.f = fn
  qd : c.depth = (m.depth : Int) + 1
  qr : c.regs = [arg, 0, 0, 0]
  qn : c.defers = []
  qw : c.lv = false
  qy : c.df = df
  qz : c.rc = false
  qp : (df = false ∧ c.pg = false) ∨ (df = true ∧ ∃ p, p0 = some p ∧ p.regs.length = 4 ∧ c.outer = regAt p.regs 1 ∧ c.pg = (p.en == 2) ∧ (p.en = 2 → PanOk m p.pa c.pa))
def SimOut {α : Type} (m : Ma) (o : Out α) (r : SM × SF) (R : Ma → α → SM → SF → Prop) : Prop :=
  match o with
  | .spent m' => RelX m' r.1
  | .ok m' x => RelM m' r.1 ∧ PanLe m m' ∧ R m' x r.1 r.2
theorem regSet_len (rs : List Int) (a x : Int) : (regSet rs a x).length = rs.length := by simp [regSet]
theorem regSet_one {rs : List Int} (h : rs.length = 4) : regSet rs 1 (regAt rs 1) = rs := by
  match rs, h with
  | [a, b, c, d], _ => rfl
theorem regSet_two {rs : List Int} {x y : Int} : regSet (regSet rs 1 x) 1 y = regSet rs 1 y := by simp [regSet, List.set_set]
theorem w16s_eq (n : Int) : w16s n = w16 n := by unfold w16s w16; omega
def panB : Option Fr → Bool
  | some p => p.en == 2
  | none => false
/-- A simple step. -/
theorem sim_simple {m : Ma} {s : SM} {dep : Nat} {p0 par : Option Fr} {df : Bool} {f : Fr} {c : SF} (st : St) (hm : RelM m s) (hf : RelF m dep p0 df f par c) (h1 : f.en = 1)
    (hk : st.k ≠ 5 ∧ st.k ≠ 6 ∧ st.k ≠ 8 ∧ st.k ≠ 10) :
    (stepM m f par st).2.2.2 = false ∧ RelM (stepM m f par st).1 (simpleS s c st).1 ∧ PanLe m (stepM m f par st).1 ∧ (stepM m f par st).1.depth = m.depth ∧
      RelF (stepM m f par st).1 dep p0 df (stepM m f par st).2.1 (stepM m f par st).2.2.1 (simpleS s c st).2 ∧ (stepM m f par st).2.1.en = 1 := by
  obtain ⟨k5, k6, k8, k10⟩ := hk
  have fin : ∀ (x : Ma × Fr × Option Fr × Bool) (y : SM × SF), stepM m f par st = x → simpleS s c st = y → x.2.2.2 = false → RelM x.1 y.1 → PanLe m x.1 → x.1.depth = m.depth → RelF x.1 dep p0 df x.2.1 x.2.2.1 y.2 → x.2.1.en = 1 → (stepM m f par st).2.2.2 = false ∧ RelM (stepM m f par st).1 (simpleS s c st).1 ∧ PanLe m (stepM m f par st).1 ∧ (stepM m f par st).1.depth = m.depth ∧
      RelF (stepM m f par st).1 dep p0 df (stepM m f par st).2.1 (stepM m f par st).2.2.1 (simpleS s c st).2 ∧ (stepM m f par st).2.1.en = 1 := by
    intro x y h1 h2 a b c d e f
    rw [h1, h2]
    exact ⟨a, b, c, d, e, f⟩
  have setR : ∀ rs' : List Int, rs'.length = 4 → RelF m dep p0 df { f with regs := rs' } par { c with regs := rs' } := fun rs' h => { hf with qr := rfl, ql := h }
  by_cases k1 : st.k = 1
  · refine fin (m, { f with regs := regSet f.regs st.a st.b }, par, false) (s, { c with regs := regSet c.regs st.a st.b }) (by unfold stepM; rw [if_pos k1]) (by unfold simpleS; rw [if_pos k1]) rfl hm (.refl _) rfl ?_ h1
    rw [hf.qr]; exact setR _ (by rw [regSet_len]; exact hf.ql)
  by_cases k2 : st.k = 2
  · refine fin (m, { f with regs := regSet f.regs st.a (w16 (regAt f.regs st.a + regAt f.regs st.b)) }, par, false) (s, { c with regs := regSet c.regs st.a (w16s (regAt c.regs st.a + regAt c.regs st.b)) }) (by unfold stepM; rw [if_neg k1, if_pos k2]) (by unfold simpleS; rw [if_neg k1, if_pos k2]) rfl hm (.refl _) rfl ?_ h1
    rw [w16s_eq, hf.qr]; exact setR _ (by rw [regSet_len]; exact hf.ql)
  by_cases k3 : st.k = 3
  · refine fin (tellM m 4 f.fn (regAt f.regs st.a) f.id, f, par, false) (tellS s 4 c.f (regAt c.regs st.a), c) (by unfold stepM; rw [if_neg k1, if_neg k2, if_pos k3]) (by unfold simpleS; rw [if_neg k1, if_neg k2, if_pos k3]) rfl { hm with trace := ?_ } (.of_eq rfl) rfl (hf.mono (.of_eq rfl)) h1
    show _ ++ _ = _ ++ _
    rw [hm.trace, hf.qf, hf.qr]
  by_cases k7 : st.k = 7
  · have no : (f.df && !f.ct && panB par) = false → (c.pg && !c.rc) = false → (stepM m f par st).2.2.2 = false ∧ RelM (stepM m f par st).1 (simpleS s c st).1 ∧ PanLe m (stepM m f par st).1 ∧ (stepM m f par st).1.depth = m.depth ∧
      RelF (stepM m f par st).1 dep p0 df (stepM m f par st).2.1 (stepM m f par st).2.2.1 (simpleS s c st).2 ∧ (stepM m f par st).2.1.en = 1 := by
      intro h h'
      refine fin (m, { f with regs := regSet (regSet f.regs st.a 0) 3 0 }, par, false) (s, { c with regs := regSet (regSet c.regs st.a 0) 3 0 }) ?_ ?_ rfl hm (.refl _) rfl ?_ h1
      · unfold stepM
        rw [if_neg k1, if_neg k2, if_neg k3, if_neg k5, if_neg k6, if_pos k7]
        cases par with
        | none => rfl
        | some p => unfold panB at h; simp only; rw [h]; rfl
      · unfold simpleS
        rw [if_neg k1, if_neg k2, if_neg k3, if_neg (by omega), if_neg (by omega), if_neg (by omega), if_pos k7, h']; rfl
      · rw [hf.qr]; exact setR _ (by rw [regSet_len, regSet_len]; exact hf.ql)
    rcases hf.qp with ⟨hd, hp, hg⟩ | ⟨hd, p, hp0, hp, hg, hv⟩
    · exact no (by rw [hf.qg, hd]; rfl) (by rw [hg]; rfl)
    · by_cases hb : (p.en == 2 && !f.ct) = true
      · have hpe : p.en = 2 := by simp at hb; exact hb.1
        have hct : f.ct = false := by simp at hb; exact hb.2
        obtain ⟨g1, g2, g3⟩ := hv hpe
        obtain ⟨m1, em1⟩ : ∃ m1, m1 = tellM { pnSet m p.pa (fun x => { x with fa := 1 }) with recs := m.recs ++ [⟨f.id, p.id, p.pa⟩] } 6 f.fn (pnAt m p.pa).va f.id := ⟨_, rfl⟩
        have le : PanLe m m1 := by rw [em1]; exact (PanLe.set m p.pa (fun x => { x with fa := 1 }) fun _ => rfl).trans (.of_eq rfl)
        have hf' := hf.mono le
        refine fin (m1, { f with ct := true, regs := regSet (regSet f.regs st.a (pnAt m p.pa).va) 3 1 }, par, false) (tellS s 6 c.f c.pa, { c with rc := true, regs := regSet (regSet c.regs st.a c.pa) 3 1 }) ?_ ?_ rfl ?_ le (by rw [em1]; rfl) ?_ h1
        · unfold stepM
          rw [if_neg k1, if_neg k2, if_neg k3, if_neg k5, if_neg k6, if_pos k7, hp]
          simp only
          rw [if_pos (by rw [hf.qg, hd, hct, hpe]; rfl), em1]
        · unfold simpleS
          rw [if_neg k1, if_neg k2, if_neg k3, if_neg (by omega), if_neg (by omega), if_neg (by omega), if_pos k7, if_pos (by rw [hg, hf.qz]; exact hb)]
        · refine ⟨hm.go, ?_, ?_, ?_, ?_⟩
          · rw [em1]; exact hm.shared
          · rw [em1]; exact hm.made
          · rw [em1]; exact hm.deep
          · rw [em1]
            show _ ++ _ = _ ++ _
            rw [hm.trace, hf.qf, g3]; rfl
        · rw [hf.qr, g3]
          exact { hf' with qr := rfl, ql := (by rw [regSet_len, regSet_len]; exact hf.ql), qz := rfl }
      · have hb' : (p.en == 2 && !f.ct) = false := by simpa using hb
        exact no (by rw [hp, hf.qg, hd, Bool.true_and]; show (!f.ct && p.en == 2) = false; rw [Bool.and_comm]; exact hb') (by rw [hg, hf.qz]; exact hb')
  by_cases k9 : st.k = 9
  · have e2 : simpleS s c st = (s, if c.df then { c with outer := regAt c.regs st.a } else c) := by
      unfold simpleS
      rw [if_neg k1, if_neg k2, if_neg k3, if_pos k9]
    rcases hf.qp with ⟨hd, hp, hg⟩ | ⟨hd, p, hp0, hp, hg, hv⟩
    · have e3 : simpleS s c st = (s, c) := by rw [e2, hf.qy, hd]; rfl
      refine fin (m, f, par, false) (s, c) ?_ e3 rfl hm (.refl _) rfl hf h1
      · unfold stepM
        rw [if_neg k1, if_neg k2, if_neg k3, if_neg k5, if_neg k6, if_neg k7, if_neg k8, if_pos k9]
        cases par with
        | none => rfl
        | some p => simp only; rw [hf.qg, hd]; rfl
    · refine fin (m, f, some { p with regs := regSet p.regs 1 (regAt f.regs st.a) }, false) (s, { c with outer := regAt f.regs st.a }) ?_ ?_ rfl hm (.refl _) rfl ?_ h1
      · unfold stepM
        rw [if_neg k1, if_neg k2, if_neg k3, if_neg k5, if_neg k6, if_neg k7, if_neg k8, if_pos k9, hp]
        simp only
        rw [hf.qg, hd, if_pos rfl, regSet_two]
      · rw [e2, hf.qy, hd, if_pos rfl, hf.qr]
      · exact { hf with qp := .inr ⟨hd, p, hp0, rfl, hg, hv⟩ }
  by_cases k12 : st.k = 12
  · refine fin ({ m with shared := regAt f.regs st.a }, f, par, false) ({ s with shared := regAt c.regs st.a }, c) (by unfold stepM; rw [if_neg k1, if_neg k2, if_neg k3, if_neg k5, if_neg k6, if_neg k7, if_neg k8, if_neg k9, if_neg k10, if_pos k12]) (by unfold simpleS; rw [if_neg k1, if_neg k2, if_neg k3, if_neg k9, if_pos k12]) rfl { hm with shared := by rw [hf.qr] } (.of_eq rfl) rfl (hf.mono (.of_eq rfl)) h1
  by_cases k13 : st.k = 13
  · refine fin (m, { f with regs := regSet f.regs st.a m.shared }, par, false) (s, { c with regs := regSet c.regs st.a s.shared }) (by unfold stepM; rw [if_neg k1, if_neg k2, if_neg k3, if_neg k5, if_neg k6, if_neg k7, if_neg k8, if_neg k9, if_neg k10, if_neg k12, if_pos k13]) (by unfold simpleS; rw [if_neg k1, if_neg k2, if_neg k3, if_neg k9, if_neg k12, if_pos k13]) rfl hm (.refl _) rfl ?_ h1
    rw [hf.qr, hm.shared]; exact setR _ (by rw [regSet_len]; exact hf.ql)
  refine fin (m, f, par, false) (s, c) (by unfold stepM; rw [if_neg k1, if_neg k2, if_neg k3, if_neg k5, if_neg k6, if_neg k7, if_neg k8, if_neg k9, if_neg k10, if_neg k12, if_neg k13]) (by unfold simpleS; rw [if_neg k1, if_neg k2, if_neg k3, if_neg k9, if_neg k12, if_neg k13, if_neg k7]) rfl hm (.refl _) rfl hf h1
def JumpOk (L : List (List St)) : Prop := ∀ fn s, s ∈ bodyOf L fn → s.k = 11 → 0 ≤ s.a
/-- What a piece of a run leaves. -/
structure Left (fuel : Nat) (m m' : Ma) : Prop where
  depth : m'.depth = m.depth
  le : m.made ≤ m'.made
  top : m'.made ≤ fuel
def Sim (fuel : Nat) (call : CallM) (cs : CallS) : Prop := ∀ m s fn arg p0 df c, m.made ≤ fuel → RelM m s → Fresh m fn arg p0 df c →
  SimOut m (call m fn arg p0 df) (cs s c) fun m' x _ c' => Left fuel m m' ∧ RelF m' (m.depth + 1) p0 df x.2 x.1 c'
theorem stepM_made (m : Ma) (f : Fr) (par : Option Fr) (s : St) : (stepM m f par s).1.made = m.made := by
  unfold stepM
  by_cases k1 : s.k = 1
  · rw [if_pos k1]; try rfl
  rw [if_neg k1]
  by_cases k2 : s.k = 2
  · rw [if_pos k2]; try rfl
  rw [if_neg k2]
  by_cases k3 : s.k = 3
  · rw [if_pos k3]; try rfl
  rw [if_neg k3]
  by_cases k5 : s.k = 5
  · rw [if_pos k5]; try rfl
  rw [if_neg k5]
  by_cases k6 : s.k = 6
  · rw [if_pos k6]; try rfl
  rw [if_neg k6]
  by_cases k7 : s.k = 7
  · rw [if_pos k7]
    cases par with
    | none => rfl
    | some p => simp only; split <;> rfl
  rw [if_neg k7]
  by_cases k8 : s.k = 8
  · rw [if_pos k8]; try rfl
  rw [if_neg k8]
  by_cases k9 : s.k = 9
  · rw [if_pos k9]
    cases par with
    | none => rfl
    | some p => simp only; split <;> rfl
  rw [if_neg k9]
  by_cases k10 : s.k = 10
  · rw [if_pos k10]; try rfl
  rw [if_neg k10]
  by_cases k12 : s.k = 12
  · rw [if_pos k12]; try rfl
  rw [if_neg k12]
  by_cases k13 : s.k = 13
  · rw [if_pos k13]; try rfl
  rw [if_neg k13]
theorem innerR1 {c : SF} {r : SM × SF} {at_ : Int} (h : r.2.kind = 1) : innerR c r at_ = (r.1, { c with regs := regSet c.regs 2 (regAt r.2.regs 1) }, at_ + 1) := by unfold innerR; rw [if_pos h]
theorem innerR2 {c : SF} {r : SM × SF} {at_ : Int} (h : r.2.kind = 2) : innerR c r at_ = (r.1, { c with kind := 2, value := r.2.value, lv := c.lv || r.2.lv }, -1) := by simp [innerR, h]
theorem innerR3 {c : SF} {r : SM × SF} {at_ : Int} (h : r.2.kind = 3) : innerR c r at_ = (r.1, { c with kind := 3, lv := c.lv || r.2.lv }, -1) := by simp [innerR, h]
theorem innerR_m (c : SF) (r : SM × SF) (at_ : Int) : (innerR c r at_).1 = r.1 := by unfold innerR; split <;> rfl
theorem innerM1 {f d : Fr} (h : d.en = 1) : innerM f d = ({ f with lv := f.lv || d.lv, regs := regSet f.regs 2 (regAt d.regs 1) }, false) := by simp [innerM, h]
theorem innerM2 {f d : Fr} (h : d.en ≠ 1) : innerM f d = ({ f with lv := f.lv || d.lv, en := d.en, pa := d.pa }, true) := by simp [innerM, h]
theorem sim_body {fuel : Nat} {call : CallM} {cs : CallS} {L : List (List St)} (hL : JumpOk L) (ih : Sim fuel call cs) {dep : Nat} {p0 : Option Fr} {df : Bool} :
    ∀ (n : Nat) (m : Ma) (s : SM) (f : Fr) (par : Option Fr) (c : SF) (at_ : Nat), m.made ≤ fuel → fuel + 1 ≤ m.made + n → m.depth = dep → RelM m s → RelF m dep p0 df f par c → f.en = 1 →
      SimOut m (bodyM call L fuel n m f par at_) (loopS cs L fuel n s c at_) fun m' x _ c' => Left fuel m m' ∧ RelF m' dep p0 df x.1 x.2 c'
  | 0, m, s, f, par, c, at_, h1, h2, _, _, _, _ => by omega
  | n + 1, m, s, f, par, c, at_, h1, h2, hd, hm, hf, he => by
    rw [bodyM, loopS, if_neg (by omega), Int.toNat_natCast, hf.qf]
    cases hs : (bodyOf L f.fn)[at_]? with
    | none => exact ⟨hm, .refl _, ⟨rfl, Nat.le_refl _, h1⟩, hf⟩
    | some st =>
      simp only
      rw [hm.made]
      by_cases hfu : m.made = fuel
      · rw [if_pos hfu, if_pos hfu]
        exact ⟨rfl, rfl, hm.deep, hm.trace⟩
      rw [if_neg hfu, if_neg hfu]
      have hmem : st ∈ bodyOf L f.fn := List.mem_of_getElem? hs
      obtain ⟨m1, em1⟩ : ∃ m1 : Ma, m1 = { m with made := m.made + 1 } := ⟨_, rfl⟩
      obtain ⟨s1, es1⟩ : ∃ s1 : SM, s1 = { s with made := m.made + 1, seen := s.seen ++ [(f.fn, (at_ : Int))] } := ⟨_, rfl⟩
      rw [← em1, ← es1]
      have hm1 : RelM m1 s1 := by subst em1; subst es1; exact { hm with made := rfl }
      have le1 : PanLe m m1 := .of_eq (by rw [em1])
      have hf1 := hf.mono le1
      have md : m1.made = m.made + 1 := by rw [em1]
      have dd : m1.depth = dep := by rw [em1]; exact hd
      have go : ∀ (m' : Ma) (s' : SM) (f' : Fr) (par' : Option Fr) (c' : SF) (a : Nat), m1.made ≤ m'.made → m'.made ≤ fuel → m'.depth = dep → PanLe m1 m' → RelM m' s' → RelF m' dep p0 df f' par' c' → f'.en = 1 →
          SimOut m (bodyM call L fuel n m' f' par' a) (loopS cs L fuel n s' c' a) fun m' x _ c' => Left fuel m m' ∧ RelF m' dep p0 df x.1 x.2 c' := by
        intro m' s' f' par' c' a q1 q2 q3 q4 q5 q6 q7
        have := sim_body hL ih n m' s' f' par' c' a q2 (by omega) q3 q5 q6 q7
        revert this
        unfold SimOut
        cases bodyM call L fuel n m' f' par' a with
        | spent m2 => exact fun h => h
        | ok m2 x => exact fun ⟨g1, g2, g3, g4⟩ => ⟨g1, le1.trans (q4.trans g2), ⟨g3.depth.trans (q3.trans hd.symm), by have := g3.le; omega, g3.top⟩, g4⟩
      by_cases k11 : st.k = 11
      · rw [if_pos k11]
        have e : makeS cs s1 c at_ st = (s1, c, if regAt f.regs st.b > 0 then st.a else (at_ : Int) + 1) := by
          unfold makeS
          rw [if_neg (by omega), if_neg (by omega), if_neg (by omega), if_neg (by omega), if_neg (by omega), if_pos k11, hf.qr]
        rw [e]
        simp only
        rw [hm1.go, if_neg Bool.false_ne_true]
        have e2 : (if regAt f.regs st.b > 0 then st.a else (at_ : Int) + 1) = ((if regAt f.regs st.b > 0 then st.a.toNat else at_ + 1 : Nat) : Int) := by
          split
          · rw [Int.toNat_of_nonneg (hL _ _ hmem k11)]
          · omega
        rw [e2]
        exact go m1 s1 f par c _ (Nat.le_refl _) (by omega) dd (.refl _) hm1 hf1 he
      rw [if_neg k11]
      by_cases k4 : st.k = 4
      · rw [if_pos k4]
        have e : makeS cs s1 c at_ st = innerS cs s1 c at_ st := by unfold makeS; rw [if_pos k4]
        rw [e]
        have F : Fresh m1 st.a (regAt f.regs st.b) (some f) false (freshIn c st) :=
          ⟨rfl, by show c.depth + 1 = _; rw [hf.qd, dd], by show [regAt c.regs st.b, 0, 0, 0] = _; rw [hf.qr], rfl, rfl, rfl, rfl, .inl ⟨rfl, rfl⟩⟩
        have hc := ih m1 s1 st.a (regAt f.regs st.b) (some f) false _ (by omega) hm1 F
        unfold innerS
        obtain ⟨r, hr⟩ : ∃ r, r = cs s1 (freshIn c st) := ⟨_, rfl⟩
        rw [← hr] at hc ⊢
        obtain ⟨o, ho⟩ : ∃ o, o = call m1 st.a (regAt f.regs st.b) (some f) false := ⟨_, rfl⟩
        rw [← ho] at hc ⊢
        cases o with
        | spent m2 =>
          have hc' : RelX m2 r.1 := hc
          simp only
          rw [innerR_m, hc'.stop, if_pos rfl]
          show RelX m2 _
          exact hc'
        | ok m2 x =>
          obtain ⟨pf, d⟩ := x
          obtain ⟨g1, g2, g3, g4⟩ := hc
          rcases g4.qp with ⟨_, hpf, _⟩ | ⟨hdf, _⟩
          · simp only at hpf
            subst hpf
            have hfm := hf1.mono g2
            simp only
            have g4k : r.2.kind = d.en := g4.qk
            have g4r : r.2.regs = d.regs := g4.qr
            have g4l : r.2.lv = d.lv := g4.qw
            rw [Option.getD_some]
            rcases g4.qe with e1 | e2 | e3
            · have e1' : d.en = 1 := e1
              have nl : d.lv = false := g4.qx e1
              rw [innerM1 e1', innerR1 (g4k.trans e1')]
              simp only
              rw [g1.go, if_neg Bool.false_ne_true, if_neg Bool.false_ne_true]
              exact go m2 r.1 { f with lv := f.lv || d.lv, regs := regSet f.regs 2 (regAt d.regs 1) } par { c with regs := regSet c.regs 2 (regAt r.2.regs 1) } (at_ + 1) (by have := g3.le; omega) g3.top (g3.depth.trans dd) g2 g1
                { hfm with qr := by rw [g4r, hf.qr], ql := by rw [regSet_len]; exact hf.ql, qw := by rw [nl, Bool.or_false]; exact hf.qw, qx := fun e => by rw [nl, Bool.or_false]; exact hf.qx e } he
            · have e2' : d.en = 2 := e2
              rw [innerM2 (by omega), innerR2 (g4k.trans e2')]
              simp only
              rw [g1.go, if_neg Bool.false_ne_true, if_pos trivial]
              obtain ⟨n', rfl⟩ : ∃ n', n = n' + 1 := ⟨n - 1, by omega⟩
              rw [loopS, if_pos (by decide)]
              refine ⟨g1, le1.trans g2, ⟨g3.depth.trans (dd.trans hd.symm), by have := g3.le; omega, g3.top⟩, ?_⟩
              exact { hfm with qk := e2'.symm, qe := .inr (.inl e2'), qv := fun _ => g4.qv e2, qw := by show (c.lv || r.2.lv) = (f.lv || d.lv); rw [g4l, hf.qw], qx := fun e => by simp only at e; omega }
            · have e3' : d.en = 3 := e3
              rw [innerM2 (by omega), innerR3 (g4k.trans e3')]
              simp only
              rw [g1.go, if_neg Bool.false_ne_true, if_pos trivial]
              obtain ⟨n', rfl⟩ : ∃ n', n = n' + 1 := ⟨n - 1, by omega⟩
              rw [loopS, if_pos (by decide)]
              refine ⟨g1, le1.trans g2, ⟨g3.depth.trans (dd.trans hd.symm), by have := g3.le; omega, g3.top⟩, ?_⟩
              exact { hfm with qk := e3'.symm, qe := .inr (.inr e3'), qv := fun e => by simp only at e; omega, qw := by show (c.lv || r.2.lv) = (f.lv || d.lv); rw [g4l, hf.qw], qx := fun e => by simp only at e; omega }
          · cases hdf
      rw [if_neg k4]
      have stop : ∀ (m' : Ma) (s' : SM) (f' : Fr) (c' : SF), m'.made = m1.made → m'.depth = dep → PanLe m1 m' → RelM m' s' → RelF m' dep p0 df f' par c' → stepM m1 f par st = (m', f', par, true) → makeS cs s1 c at_ st = (s', c', -1) →
          SimOut m (let r := stepM m1 f par st; if r.2.2.2 then .ok r.1 (r.2.1, r.2.2.1) else bodyM call L fuel n r.1 r.2.1 r.2.2.1 (at_ + 1))
            (let r := makeS cs s1 c at_ st; if r.1.spent then (r.1, r.2.1) else loopS cs L fuel n r.1 r.2.1 r.2.2) fun m' x _ c' => Left fuel m m' ∧ RelF m' dep p0 df x.1 x.2 c' := by
        intro m' s' f' c' q1 q2 q3 q4 q5 q6 q7
        rw [q6, q7]
        simp only
        rw [q4.go, if_neg Bool.false_ne_true, if_pos trivial]
        obtain ⟨n', rfl⟩ : ∃ n', n = n' + 1 := ⟨n - 1, by omega⟩
        rw [loopS, if_pos (by decide)]
        exact ⟨q4, le1.trans q3, ⟨q2.trans hd.symm, by omega, by omega⟩, q5⟩
      by_cases k5 : st.k = 5
      · have e1 : stepM m1 f par st = (tellM m1 2 st.a (regAt f.regs st.b) f.id, { f with runs := f.runs ++ [(st.a, regAt f.regs st.b)] }, par, false) := by
          unfold stepM; rw [if_neg (by omega), if_neg (by omega), if_neg (by omega), if_pos k5]
        have e2 : makeS cs s1 c at_ st = (tellS s1 2 st.a (regAt c.regs st.b), { c with defers := c.defers ++ [(st.a, regAt c.regs st.b)] }, (at_ : Int) + 1) := by
          unfold makeS; rw [if_neg k4, if_pos k5]
        rw [e1, e2]
        simp only
        have hm2 : RelM (tellM m1 2 st.a (regAt f.regs st.b) f.id) (tellS s1 2 st.a (regAt c.regs st.b)) := { hm1 with trace := by show _ ++ _ = _ ++ _; rw [hm1.trace, hf.qr] }
        rw [hm2.go, if_neg Bool.false_ne_true, if_neg Bool.false_ne_true]
        exact go _ _ { f with runs := f.runs ++ [(st.a, regAt f.regs st.b)] } par { c with defers := c.defers ++ [(st.a, regAt c.regs st.b)] } (at_ + 1) (Nat.le_refl _) (by show m1.made ≤ fuel; omega) dd (.of_eq rfl) hm2
          { hf1.mono (.of_eq rfl) with qn := by show _ ++ _ = _ ++ _; rw [hf.qn, hf.qr] } he
      by_cases k6 : st.k = 6
      · obtain ⟨x, hx⟩ : ∃ x : Pn, x = ⟨f.id, f.fn, regAt f.regs st.a, m1.depth, 0, -1, -1, f.ct, []⟩ := ⟨_, rfl⟩
        obtain ⟨m2, em2⟩ : ∃ m2, m2 = tellM { m1 with panics := m1.panics ++ [x] } 5 f.fn (regAt f.regs st.a) f.id := ⟨_, rfl⟩
        have hp2 : m2.panics = m1.panics ++ [x] := by rw [em2]; rfl
        have le2 : PanLe m1 m2 := .push m1 x m2 hp2
        have hnew := PanOk.new m1 m2 x hp2
        refine stop m2 (tellS s1 5 c.f (regAt c.regs st.a)) { f with en := 2, pa := m1.panics.length } { c with kind := 2, value := regAt c.regs st.a } (by rw [em2]; rfl) (by rw [em2]; exact dd) le2 ⟨hm1.go, ?_, ?_, ?_, ?_⟩ ?_ ?_ ?_
        · rw [em2]; exact hm1.shared
        · rw [em2]; exact hm1.made
        · rw [em2]; exact hm1.deep
        · rw [em2]; show _ ++ _ = _ ++ _; rw [hm1.trace, hf.qf, hf.qr]
        · exact { hf1.mono le2 with qk := rfl, qe := .inr (.inl rfl), qv := fun _ => by rw [hf.qr]; rw [hx] at hnew; exact hnew, qx := fun e => by simp at e }
        · unfold stepM; rw [if_neg (by omega), if_neg (by omega), if_neg (by omega), if_neg (by omega), if_pos k6, em2, hx]
        · unfold makeS; rw [if_neg (by omega), if_neg (by omega), if_pos k6]
      by_cases k8 : st.k = 8
      · refine stop m1 s1 { f with regs := regSet f.regs 1 (regAt f.regs st.a) } { c with regs := regSet c.regs 1 (regAt c.regs st.a) } rfl dd (.refl _) hm1 { hf1 with qr := by rw [hf.qr], ql := by rw [regSet_len]; exact hf.ql } ?_ ?_
        · unfold stepM; rw [if_neg (by omega), if_neg (by omega), if_neg (by omega), if_neg (by omega), if_neg (by omega), if_neg (by omega), if_pos k8]
        · unfold makeS; rw [if_neg (by omega), if_neg (by omega), if_neg (by omega), if_pos k8]
      by_cases k10 : st.k = 10
      · refine stop m1 s1 { f with lv := true, en := 3 } { c with kind := 3, lv := true } rfl dd (.refl _) hm1 { hf1 with qk := rfl, qe := .inr (.inr rfl), qv := fun e => by simp at e, qw := rfl, qx := fun e => by simp at e } ?_ ?_
        · unfold stepM; rw [if_neg (by omega), if_neg (by omega), if_neg (by omega), if_neg (by omega), if_neg (by omega), if_neg (by omega), if_neg (by omega), if_neg (by omega), if_pos k10]
        · unfold makeS; rw [if_neg (by omega), if_neg (by omega), if_neg (by omega), if_neg (by omega), if_pos k10]
      obtain ⟨e1, e2, e3, e4, e5, e6⟩ := sim_simple st hm1 hf1 he ⟨k5, k6, k8, k10⟩
      have e : makeS cs s1 c at_ st = ((simpleS s1 c st).1, (simpleS s1 c st).2, (at_ : Int) + 1) := by
        unfold makeS; rw [if_neg k4, if_neg k5, if_neg k6, if_neg k8, if_neg k10, if_neg k11]
      rw [e]
      simp only
      rw [e1, e2.go, if_neg Bool.false_ne_true, if_neg Bool.false_ne_true]
      exact go _ _ _ _ _ (at_ + 1) (by rw [stepM_made]; exact Nat.le_refl _) (by rw [stepM_made]; omega) (e4.trans dd) e3 e2 e5 e6
def freshLastM (c : SF) (next : Int × Int) : SF := ⟨next.1, c.depth + 1, [next.2, 0, 0, 0], [], 0, 0, false, true, c.kind == 2, if c.kind = 2 then c.value else 0, false, regAt c.regs 1⟩
/-- A deferred call's end, told to the call that ran it. -/
def lastRM (c1 : SF) (d : SF) : SF :=
  let c2 := { c1 with regs := regSet c1.regs 1 d.outer, lv := c1.lv || d.lv }
  let c3 := if d.rc then { c2 with kind := if c2.lv then 3 else 1 } else c2
  let c4 := if d.kind = 2 then { c3 with kind := 2, value := d.value } else c3
  if d.kind = 3 then { c4 with kind := 3 } else c4
theorem lastS_eqM (call : CallS) (m : SM) (c : SF) : lastS call m c =
    let next := c.defers.getD (c.defers.length - 1) (0, 0)
    let c1 := { c with defers := c.defers.take (c.defers.length - 1) }
    let r := call m (freshLastM c next)
    if r.1.spent then (r.1, c1) else (r.1, lastRM c1 r.2) := rfl
theorem pnSet_rest (m : Ma) (k : Int) (g : Pn → Pn) : (pnSet m k g).made = m.made ∧ (pnSet m k g).depth = m.depth ∧ (pnSet m k g).shared = m.shared ∧ (pnSet m k g).deepest = m.deepest ∧ (pnSet m k g).trace = m.trace := ⟨rfl, rfl, rfl, rfl, rfl⟩
structure Same (m m' : Ma) : Prop where
  made : m'.made = m.made
  depth : m'.depth = m.depth
  shared : m'.shared = m.shared
  deep : m'.deepest = m.deepest
  trace : m'.trace = m.trace
theorem Same.refl (m : Ma) : Same m m := ⟨rfl, rfl, rfl, rfl, rfl⟩
theorem Same.rel {m m' : Ma} {s : SM} (h : Same m m') (hm : RelM m s) : RelM m' s := ⟨hm.go, hm.shared.trans h.shared.symm, hm.made.trans h.made.symm, by rw [hm.deep, h.deep], hm.trace.trans h.trace.symm⟩
theorem behind_same (m : Ma) (f d : Fr) : Same m (behindM m f d).1 ∧ PanLe m (behindM m f d).1 := by
  unfold behindM
  simp only
  split
  · split
    · exact ⟨⟨rfl, rfl, rfl, rfl, rfl⟩, (PanLe.set m f.pa (fun x => { x with fa := 2, by_ := d.pa }) fun _ => rfl).trans (PanLe.set _ d.pa (fun x => { x with la := f.pa }) fun _ => rfl)⟩
    · exact ⟨.refl _, .refl _⟩
  · split
    · split
      · exact ⟨⟨rfl, rfl, rfl, rfl, rfl⟩, PanLe.set m f.pa (fun x => { x with fa := 4 }) fun _ => rfl⟩
      · exact ⟨.refl _, .refl _⟩
    · split
      · exact ⟨.refl _, .refl _⟩
      · split <;> exact ⟨.refl _, .refl _⟩
/-- A frame behind a deferred call. -/
theorem sim_behind {m : Ma} {s : SM} {dep : Nat} {p0 par : Option Fr} {df : Bool} {f d : Fr} {c cd : SF} {dep2 : Nat} {pd : Option Fr} (hf : RelF m dep p0 df f par c)
    (hd : RelF m dep2 (some f) true d pd cd) : pd = some { f with regs := regSet f.regs 1 cd.outer } ∧
      RelF (behindM m { f with regs := regSet f.regs 1 cd.outer } d).1 dep p0 df (behindM m { f with regs := regSet f.regs 1 cd.outer } d).2 par (lastRM c cd) ∧
      (behindM m { f with regs := regSet f.regs 1 cd.outer } d).2.runs = f.runs := by
  rcases hd.qp with ⟨h, _⟩ | ⟨_, p, hp, hpd, _, _⟩
  · cases h
  injection hp with hp
  subst hp
  refine ⟨hpd, ?_⟩
  obtain ⟨f1, ef1⟩ : ∃ f1 : Fr, f1 = { f with regs := regSet f.regs 1 cd.outer } := ⟨_, rfl⟩
  rw [← ef1]
  have le := (behind_same m f1 d).2
  have hfm := hf.mono le
  have hdm := hd.mono le
  revert hfm hdm
  obtain ⟨m2, hm2⟩ : ∃ m2, m2 = (behindM m f1 d).1 := ⟨_, rfl⟩
  rw [← hm2]
  intro hfm hdm
  have hreg : regSet c.regs 1 cd.outer = regSet f.regs 1 cd.outer := by rw [hf.qr]
  have hlv : (c.lv || cd.lv) = (f.lv || d.lv) := by rw [hf.qw, hd.qw]
  have hlen : (regSet f.regs 1 cd.outer).length = 4 := by rw [regSet_len]; exact hf.ql
  have dk := hd.qk
  have drc := hd.qz
  rcases hd.qe with e1 | e2 | e3
  · have nl : d.lv = false := hd.qx e1
    have nl2 : cd.lv = false := by rw [hd.qw]; exact nl
    cases hct : d.ct with
    | false =>
      have e : (behindM m f1 d).2 = { f1 with lv := f1.lv || d.lv } := by simp [behindM, e1, hct]
      have e' : lastRM c cd = { c with regs := regSet c.regs 1 cd.outer, lv := c.lv || cd.lv } := by simp [lastRM, dk, e1, drc, hct]
      rw [e, e', ef1]
      exact ⟨{ hfm with qr := hreg, ql := hlen, qw := hlv, qx := fun h => by simp only [nl, Bool.or_false]; exact hf.qx h }, rfl⟩
    | true =>
      cases hl : f.lv with
      | false =>
        have e : (behindM m f1 d).2 = { f1 with lv := f1.lv || d.lv, en := 1 } := by simp [behindM, e1, hct, nl, ef1, hl]
        have e' : lastRM c cd = { c with regs := regSet c.regs 1 cd.outer, lv := c.lv || cd.lv, kind := 1 } := by
          have hcl : c.lv = false := by rw [hf.qw]; exact hl
          simp [lastRM, dk, e1, drc, hct, hcl, nl2]
        rw [e, e', ef1]
        exact ⟨{ hfm with qr := hreg, ql := hlen, qw := hlv, qk := rfl, qe := .inl rfl, qv := fun h => by simp at h, qx := fun h => by simp only [nl, hl, Bool.or_false] }, rfl⟩
      | true =>
        have e : (behindM m f1 d).2 = { f1 with lv := f1.lv || d.lv, en := 3 } := by simp [behindM, e1, hct, nl, ef1, hl]
        have e' : lastRM c cd = { c with regs := regSet c.regs 1 cd.outer, lv := c.lv || cd.lv, kind := 3 } := by
          have hcl : c.lv = true := by rw [hf.qw]; exact hl
          simp [lastRM, dk, e1, drc, hct, hcl]
        rw [e, e', ef1]
        exact ⟨{ hfm with qr := hreg, ql := hlen, qw := hlv, qk := rfl, qe := .inr (.inr rfl), qv := fun h => by simp at h, qx := fun h => by simp at h }, rfl⟩
  · have e : (behindM m f1 d).2 = { f1 with lv := f1.lv || d.lv, en := 2, pa := d.pa } := by simp [behindM, e2]
    have e' : lastRM c cd = { c with regs := regSet c.regs 1 cd.outer, lv := c.lv || cd.lv, kind := 2, value := cd.value } := by
      cases hr : cd.rc <;> simp [lastRM, dk, e2, hr]
    rw [e, e', ef1]
    exact ⟨{ hfm with qr := hreg, ql := hlen, qw := hlv, qk := rfl, qe := .inr (.inl rfl), qv := fun _ => hdm.qv e2, qx := fun h => by simp at h }, rfl⟩
  · have e : (behindM m f1 d).2 = { f1 with lv := f1.lv || d.lv, en := 3 } := by simp [behindM, e3]
    have e' : lastRM c cd = { c with regs := regSet c.regs 1 cd.outer, lv := c.lv || cd.lv, kind := 3 } := by
      cases hr : cd.rc <;> simp [lastRM, dk, e3, hr]
    rw [e, e', ef1]
    exact ⟨{ hfm with qr := hreg, ql := hlen, qw := hlv, qk := rfl, qe := .inr (.inr rfl), qv := fun h => by simp at h, qx := fun h => by simp at h }, rfl⟩
theorem sim_runs {fuel : Nat} {call : CallM} {cs : CallS} (ih : Sim fuel call cs) {dep : Nat} {p0 par : Option Fr} {df : Bool} :
    ∀ (n : Nat) (m : Ma) (s : SM) (f : Fr) (c : SF), m.made ≤ fuel → m.depth = dep → RelM m s → RelF m dep p0 df f par c → f.runs.length = n →
      SimOut m (runsM call n m f) (restS cs n s c) fun m' x _ c' => Left fuel m m' ∧ RelF m' dep p0 df x par c'
  | 0, m, s, f, c, h1, hd, hm, hf, hn => ⟨hm, .refl _, ⟨rfl, Nat.le_refl _, h1⟩, hf⟩
  | n + 1, m, s, f, c, h1, hd, hm, hf, hn => by
    rw [runsM, restS, lastS_eqM]
    simp only
    rw [hf.qn, hn, Nat.add_sub_cancel]
    obtain ⟨last, hl⟩ : ∃ last, last = f.runs.getD n (0, 0) := ⟨_, rfl⟩
    obtain ⟨f1, ef1⟩ : ∃ f1 : Fr, f1 = { f with runs := f.runs.take n } := ⟨_, rfl⟩
    obtain ⟨c1, ec1⟩ : ∃ c1 : SF, c1 = { c with defers := f.runs.take n } := ⟨_, rfl⟩
    have ec1' : ({ c with defers := f.runs.take n } : SF) = c1 := ec1.symm
    rw [← hl, ← ef1]
    have hf1 : RelF m dep p0 df f1 par c1 := by rw [ef1, ec1]; exact { hf with qn := rfl }
    have F : Fresh m last.1 last.2 (some f1) true (freshLastM c last) := by
      refine ⟨rfl, ?_, rfl, rfl, rfl, rfl, rfl, .inr ⟨rfl, f1, rfl, hf1.ql, ?_, ?_, ?_⟩⟩
      · show c.depth + 1 = _; rw [hf.qd, hd]
      · show regAt c.regs 1 = _; rw [hf.qr, ef1]
      · show (c.kind == 2) = _; rw [hf.qk, ef1]
      · intro e
        have e' : f.en = 2 := by rw [ef1] at e; exact e
        show PanOk m f1.pa (if c.kind = 2 then c.value else 0)
        rw [hf.qk, if_pos e', ef1]; exact hf.qv e'
    have hc := ih m s last.1 last.2 (some f1) true _ h1 hm F
    obtain ⟨r, hr⟩ : ∃ r, r = cs s (freshLastM c last) := ⟨_, rfl⟩
    rw [← hr] at hc ⊢
    obtain ⟨o, ho⟩ : ∃ o, o = call m last.1 last.2 (some f1) true := ⟨_, rfl⟩
    rw [← ho] at hc ⊢
    cases o with
    | spent m2 =>
      have hc' : RelX m2 r.1 := hc
      simp only
      rw [if_pos hc'.stop]
      simp only
      rw [if_pos hc'.stop]
      exact hc'
    | ok m2 x =>
      obtain ⟨pf, d⟩ := x
      obtain ⟨g1, g2, g3, g4⟩ := hc
      simp only
      rw [g1.go, if_neg Bool.false_ne_true]
      simp only
      rw [g1.go, if_neg Bool.false_ne_true]
      obtain ⟨b1, b2, b3⟩ := sim_behind (s := s) (hf1.mono g2) g4
      simp only at b1
      rw [b1, Option.getD_some]
      obtain ⟨sm, le⟩ := behind_same m2 { f1 with regs := regSet f1.regs 1 r.2.outer } d
      have hrec := sim_runs ih n (behindM m2 { f1 with regs := regSet f1.regs 1 r.2.outer } d).1 r.1 (behindM m2 { f1 with regs := regSet f1.regs 1 r.2.outer } d).2 (lastRM c1 r.2) (by rw [sm.made]; exact g3.top) (by rw [sm.depth, g3.depth, hd]) (sm.rel g1) b2
        (by rw [b3, ef1]; simp; omega)
      rw [ec1']
      revert hrec
      unfold SimOut
      cases runsM call n (behindM m2 { f1 with regs := regSet f1.regs 1 r.2.outer } d).1 (behindM m2 { f1 with regs := regSet f1.regs 1 r.2.outer } d).2 with
      | spent m3 => exact fun h => h
      | ok m3 y => exact fun ⟨q1, q2, q3, q4⟩ => ⟨q1, g2.trans (le.trans q2), ⟨q3.depth.trans (sm.depth.trans g3.depth), by have := q3.le; have := g3.le; rw [sm.made] at *; omega, q3.top⟩, q4⟩
theorem finish_pan (m : Ma) (f : Fr) : PanLe m (finishM m f) := by
  unfold finishM
  simp only
  split
  · exact (PanLe.set m f.pa (fun x => { x with un := x.un ++ [f.fn] }) fun _ => rfl).trans (.of_eq rfl)
  · exact .of_eq rfl
theorem finish_rest (m : Ma) (f : Fr) : (finishM m f).made = m.made ∧ (finishM m f).depth = m.depth ∧ (finishM m f).shared = m.shared ∧ (finishM m f).deepest = m.deepest ∧ (finishM m f).trace = m.trace ++ [⟨endKind f.en, f.fn, endVal m f⟩] := by
  unfold finishM
  simp only
  split <;> exact ⟨rfl, rfl, rfl, rfl, rfl⟩
theorem sim_call {fuel : Nat} {L : List (List St)} (hL : JumpOk L) : ∀ d : Nat, Sim fuel (callM L fuel d) (callS L fuel d)
  | 0 => fun m s fn arg p0 df c h1 hm F => ⟨rfl, hm.made, hm.deep, hm.trace⟩
  | d + 1 => fun m s fn arg p0 df c h1 hm F => by
    have ih := sim_call (fuel := fuel) hL d
    rw [callM, callS]
    simp only
    obtain ⟨m1, em1⟩ : ∃ m1, m1 = (startM m fn arg p0 df).1 := ⟨_, rfl⟩
    obtain ⟨f1, ef1⟩ : ∃ f1, f1 = (startM m fn arg p0 df).2 := ⟨_, rfl⟩
    obtain ⟨s1, es1⟩ : ∃ s1, s1 = tellS { s with deep := max s.deep c.depth } (if c.df then 3 else 1) c.f (regAt c.regs 0) := ⟨_, rfl⟩
    rw [← em1, ← ef1, ← es1]
    have hpan : m1.panics = m.panics := by rw [em1]; rfl
    have hdep : m1.depth = m.depth + 1 := by rw [em1]; rfl
    have hmade : m1.made = m.made := by rw [em1]; rfl
    have le1 : PanLe m m1 := .of_eq hpan
    have hm1 : RelM m1 s1 := by
      refine ⟨by rw [es1]; exact hm.go, by rw [es1, em1]; exact hm.shared, by rw [es1, em1]; exact hm.made, ?_, ?_⟩
      · rw [es1, em1]
        show max s.deep c.depth = ((max m.deepest (m.depth + 1) : Nat) : Int)
        rw [hm.deep, F.qd]; omega
      · rw [es1, em1]
        show s.trace ++ [_] = m.trace ++ [_]
        rw [hm.trace, F.qf, F.qr, F.qy]; rfl
    have hf1 : RelF m1 (m.depth + 1) p0 df f1 p0 { c with kind := 1 } := by
      rw [ef1]
      refine ⟨F.qf, by rw [F.qd]; rfl, F.qr, rfl, F.qn, rfl, .inl rfl, fun e => by simp [startM] at e, F.qw, fun _ => rfl, F.qy, rfl, F.qz, ?_⟩
      rcases F.qp with ⟨a, b⟩ | ⟨a, p, b1, b2, b3, b4, b5⟩
      · exact .inl ⟨a, rfl, b⟩
      · exact .inr ⟨a, p, b1, by simp only; rw [b1, b3, regSet_one b2], b4, fun e => le1 _ _ (b5 e)⟩
    have he1 : f1.en = 1 := by rw [ef1]; rfl
    have hb := sim_body hL ih (fuel + 1) m1 s1 f1 p0 { c with kind := 1 } 0 (by omega) (by omega) hdep hm1 hf1 he1
    rw [show ((0 : Nat) : Int) = 0 from rfl] at hb
    obtain ⟨r, hr⟩ : ∃ r, r = loopS (callS L fuel d) L fuel (fuel + 1) s1 { c with kind := 1 } 0 := ⟨_, rfl⟩
    rw [← hr] at hb ⊢
    obtain ⟨o, ho⟩ : ∃ o, o = bodyM (callM L fuel d) L fuel (fuel + 1) m1 f1 p0 0 := ⟨_, rfl⟩
    rw [← ho] at hb ⊢
    cases o with
    | spent m2 =>
      have hb' : RelX m2 r.1 := hb
      simp only
      rw [if_pos hb'.stop]
      exact hb'
    | ok m2 x =>
      obtain ⟨f2, par2⟩ := x
      obtain ⟨g1, g2, g3, g4⟩ := hb
      simp only
      rw [g1.go, if_neg Bool.false_ne_true]
      simp only at g4
      have hq := sim_runs ih f2.runs.length m2 r.1 f2 r.2 g3.top (g3.depth.trans hdep) g1 g4 rfl
      rw [g4.qn]
      obtain ⟨q, hqq⟩ : ∃ q, q = restS (callS L fuel d) f2.runs.length r.1 r.2 := ⟨_, rfl⟩
      rw [← hqq] at hq ⊢
      obtain ⟨o, ho⟩ : ∃ o, o = runsM (callM L fuel d) f2.runs.length m2 f2 := ⟨_, rfl⟩
      rw [← ho] at hq ⊢
      cases o with
      | spent m3 =>
        have hq' : RelX m3 q.1 := hq
        simp only
        rw [if_pos hq'.stop]
        exact hq'
      | ok m3 f3 =>
        obtain ⟨k1, k2, k3, k4⟩ := hq
        simp only
        rw [k1.go, if_neg Bool.false_ne_true]
        obtain ⟨r1, r2, r3, r4, r5⟩ := finish_rest m3 f3
        have lef := finish_pan m3 f3
        refine ⟨?_, le1.trans (g2.trans (k2.trans (lef.trans (.of_eq rfl)))), ⟨?_, ?_, ?_⟩, k4.mono (lef.trans (.of_eq rfl))⟩
        · have e : endS q.1 q.2 = tellS q.1 (endKind f3.en) f3.fn (endVal m3 f3) := by
            unfold endS endKind endVal
            rcases k4.qe with e | e | e
            · rw [k4.qk, e, if_pos rfl, if_pos rfl, if_pos rfl, k4.qf, k4.qr]
            · rw [k4.qk, e, if_neg (by decide), if_pos rfl, if_neg (by decide), if_pos rfl, if_neg (by decide), if_pos rfl, k4.qf, (k4.qv e).2.2]
            · rw [k4.qk, e, if_neg (by decide), if_neg (by decide), if_pos rfl, if_neg (by decide), if_neg (by decide), if_neg (by decide), if_neg (by decide), k4.qf]
          rw [e]
          refine ⟨k1.go, k1.shared.trans r3.symm, k1.made.trans r1.symm, ?_, ?_⟩
          · show q.1.deep = ((finishM m3 f3).deepest : Int)
            rw [k1.deep, r4]
          · show q.1.trace ++ [_] = (finishM m3 f3).trace
            rw [k1.trace, r5]
        · show (finishM m3 f3).depth - 1 = m.depth
          rw [r2, k3.depth, g3.depth, hdep]; omega
        · show m.made ≤ (finishM m3 f3).made
          rw [r1]; have := k3.le; have := g3.le; omega
        · show (finishM m3 f3).made ≤ fuel
          rw [r1]; exact k3.top
end Go.Proofs.Ytobikkdnalnllaa
namespace Go.Proofs.Ytobikkdnalnllaa
open Go.RowKit SL
set_option linter.unusedVariables false
set_option linter.unusedSimpArgs false
/-! What holds all along a run: the rules of an induction over it. -/
def putHead (par : Option Fr) (st : List Fr) : List Fr := par.toList ++ st.tail
/-- P: of the machine and the calls that have begun and not ended, the last one ahead. F: of a call that has just ended. -/
structure Along (L : List (List St)) (fuel : Nat) (T : Int → Int → Prop) (P : Ma → List Fr → Prop) (F : Ma → Fr → List Fr → Prop) : Prop where
  start : ∀ m st fn arg df, P m st → (st = [] → T fn arg) → (df = false → ∀ f, st.head? = some f → f.en = 1 ∧ ∃ s, s ∈ bodyOf L f.fn ∧ s.k = 4 ∧ s.a = fn ∧ arg = regAt f.regs s.b) → (df = true → ∃ f, st.head? = some f ∧ ∃ q, P m ({ f with runs := f.runs ++ (fn, arg) :: q } :: st.tail)) →
    P (startM m fn arg st.head? df).1 ((startM m fn arg st.head? df).2 :: st)
  made : ∀ m f st, P m (f :: st) → m.made ≠ fuel → (∃ s, s ∈ bodyOf L f.fn) → P { m with made := m.made + 1 } (f :: st)
  step : ∀ m f st s, P m (f :: st) → f.en = 1 → s ∈ bodyOf L f.fn → s.k ≠ 4 → s.k ≠ 11 →
    P (stepM m f st.head? s).1 ((stepM m f st.head? s).2.1 :: putHead (stepM m f st.head? s).2.2.1 st)
  drop : ∀ m f st n, P m (f :: st) → P m ({ f with runs := f.runs.take n } :: st)
  inner : ∀ m f d st, F m d (f :: st) → f.en = 1 → d.df = false → P m ((innerM f d).1 :: st)
  behind : ∀ m f d st, F m d (f :: st) → d.df = true → P (behindM m f d).1 ((behindM m f d).2 :: st)
  finish : ∀ m f st, P m (f :: st) → F { finishM m f with depth := (finishM m f).depth - 1 } f st
def AlongOut (P : Ma → List Fr → Prop) (o : Out (Fr × Option Fr)) (df : Bool) (st : List Fr) : Prop :=
  match o with
  | .spent m => ∃ st', P m st'
  | .ok m (f, par) => P m (f :: putHead par st) ∧ f.df = df ∧ (par.isSome = st.head?.isSome) ∧ ∀ p, par = some p → ∃ x p0, st.head? = some p0 ∧ p = { p0 with regs := x }
def AlongCall (P : Ma → List Fr → Prop) (F : Ma → Fr → List Fr → Prop) (o : Out (Option Fr × Fr)) (df : Bool) (st : List Fr) : Prop :=
  match o with
  | .spent m => ∃ st', P m st'
  | .ok m (par, f) => F m f (putHead par st) ∧ f.df = df ∧ (par.isSome = st.head?.isSome) ∧ ∀ p, par = some p → ∃ x p0, st.head? = some p0 ∧ p = { p0 with regs := x }
theorem stepM_par (m : Ma) (f : Fr) (par : Option Fr) (s : St) : (stepM m f par s).2.1.df = f.df ∧ (stepM m f par s).2.1.fn = f.fn ∧ ((stepM m f par s).2.2.2 = false → f.en = 1 → (stepM m f par s).2.1.en = 1) ∧ (stepM m f par s).2.2.1.isSome = par.isSome ∧
    ∀ p, (stepM m f par s).2.2.1 = some p → ∃ x p0, par = some p0 ∧ p = { p0 with regs := x } := by
  have same : ∀ p, par = some p → ∃ x p0, par = some p0 ∧ p = { p0 with regs := x } := fun p h => ⟨p.regs, p, h, rfl⟩
  unfold stepM
  by_cases k1 : s.k = 1
  · rw [if_pos k1]; exact ⟨rfl, rfl, fun _ h => h, rfl, same⟩
  rw [if_neg k1]
  by_cases k2 : s.k = 2
  · rw [if_pos k2]; exact ⟨rfl, rfl, fun _ h => h, rfl, same⟩
  rw [if_neg k2]
  by_cases k3 : s.k = 3
  · rw [if_pos k3]; exact ⟨rfl, rfl, fun _ h => h, rfl, same⟩
  rw [if_neg k3]
  by_cases k5 : s.k = 5
  · rw [if_pos k5]; exact ⟨rfl, rfl, fun _ h => h, rfl, same⟩
  rw [if_neg k5]
  by_cases k6 : s.k = 6
  · rw [if_pos k6]; exact ⟨rfl, rfl, (fun h => by cases h), rfl, same⟩
  rw [if_neg k6]
  by_cases k7 : s.k = 7
  · rw [if_pos k7]
    cases par with
    | none => exact ⟨rfl, rfl, fun _ h => h, rfl, same⟩
    | some p => simp only; split <;> exact ⟨rfl, rfl, fun _ h => h, rfl, same⟩
  rw [if_neg k7]
  by_cases k8 : s.k = 8
  · rw [if_pos k8]; exact ⟨rfl, rfl, (fun h => by cases h), rfl, same⟩
  rw [if_neg k8]
  by_cases k9 : s.k = 9
  · rw [if_pos k9]
    cases par with
    | none => exact ⟨rfl, rfl, fun _ h => h, rfl, same⟩
    | some p =>
      simp only
      split
      · exact ⟨rfl, rfl, fun _ h => h, rfl, fun q hq => by injection hq with hq; exact ⟨regSet p.regs 1 (regAt f.regs s.a), p, rfl, hq.symm⟩⟩
      · exact ⟨rfl, rfl, fun _ h => h, rfl, same⟩
  rw [if_neg k9]
  by_cases k10 : s.k = 10
  · rw [if_pos k10]; exact ⟨rfl, rfl, (fun h => by cases h), rfl, same⟩
  rw [if_neg k10]
  by_cases k12 : s.k = 12
  · rw [if_pos k12]; exact ⟨rfl, rfl, fun _ h => h, rfl, same⟩
  rw [if_neg k12]
  by_cases k13 : s.k = 13
  · rw [if_pos k13]; exact ⟨rfl, rfl, fun _ h => h, rfl, same⟩
  rw [if_neg k13]; exact ⟨rfl, rfl, fun _ h => h, rfl, same⟩
theorem putHead_tail (par : Option Fr) (st : List Fr) (h : par.isSome = st.head?.isSome) : (putHead par st).head? = par ∧ (putHead par st).tail = st.tail := by
  cases par with
  | some p => exact ⟨rfl, rfl⟩
  | none =>
    cases st with
    | nil => exact ⟨rfl, rfl⟩
    | cons x l => simp at h
theorem putHead_self (st : List Fr) : putHead st.head? st = st := by cases st <;> rfl
theorem putHead_put (a b : Option Fr) (st : List Fr) (h : b.isSome = st.head?.isSome) : putHead a (putHead b st) = putHead a st := by unfold putHead; rw [show (b.toList ++ st.tail).tail = st.tail from (putHead_tail b st h).2]
section
variable {L : List (List St)} {fuel : Nat} {T : Int → Int → Prop} {P : Ma → List Fr → Prop} {F : Ma → Fr → List Fr → Prop}
def CallOk (L : List (List St)) (T : Int → Int → Prop) (P : Ma → List Fr → Prop) (F : Ma → Fr → List Fr → Prop) (call : CallM) : Prop := ∀ m st fn arg df, P m st → (st = [] → T fn arg) → (df = false → ∀ f, st.head? = some f → f.en = 1 ∧ ∃ s, s ∈ bodyOf L f.fn ∧ s.k = 4 ∧ s.a = fn ∧ arg = regAt f.regs s.b) →
  (df = true → ∃ f, st.head? = some f ∧ ∃ q, P m ({ f with runs := f.runs ++ (fn, arg) :: q } :: st.tail)) → AlongCall P F (call m fn arg st.head? df) df st
theorem along_body (A : Along L fuel T P F) {call : CallM} (hc : CallOk L T P F call) (df : Bool) : ∀ (n : Nat) (m : Ma) (f : Fr) (st : List Fr) (at_ : Nat), P m (f :: st) → f.en = 1 → f.df = df →
    AlongOut P (bodyM call L fuel n m f st.head? at_) df st
  | 0, m, f, st, at_, hp, he, hd => ⟨_, hp⟩
  | n + 1, m, f, st, at_, hp, he, hd => by
    rw [bodyM]
    cases hs : (bodyOf L f.fn)[at_]? with
    | none => exact ⟨by rw [putHead_self]; exact hp, hd, rfl, fun p h => ⟨p.regs, p, h, rfl⟩⟩
    | some s =>
      have hmem := List.mem_of_getElem? hs
      simp only
      by_cases hf : m.made = fuel
      · rw [if_pos hf]; exact ⟨_, hp⟩
      rw [if_neg hf]
      have hp1 := A.made m f st hp hf ⟨s, hmem⟩
      by_cases k11 : s.k = 11
      · rw [if_pos k11]; exact along_body A hc df n _ f st _ hp1 he hd
      rw [if_neg k11]
      by_cases k4 : s.k = 4
      · rw [if_pos k4]
        have h := hc _ (f :: st) s.a (regAt f.regs s.b) false hp1 (fun h => by cases h) (fun _ g hg => by injection hg with hg; subst hg; exact ⟨he, s, hmem, k4, rfl, rfl⟩) (fun h => by cases h)
        rw [show (f :: st).head? = some f from rfl] at h
        revert h
        cases call { m with made := m.made + 1 } s.a (regAt f.regs s.b) (some f) false with
        | spent m2 => exact fun h => h
        | ok m2 x =>
          obtain ⟨pf, d⟩ := x
          rintro ⟨h1, h2, h3, h4⟩
          cases pf with
          | none => simp at h3
          | some g =>
            obtain ⟨x, p0, hp0, rfl⟩ := h4 g rfl
            injection hp0 with hp0
            subst hp0
            have hi := A.inner m2 { f with regs := x } d st h1 he h2
            simp only [Option.getD_some]
            have e1 : (innerM { f with regs := x } d).1.df = f.df ∧ ((innerM { f with regs := x } d).2 = false → (innerM { f with regs := x } d).1.en = 1) := by
              unfold innerM
              simp only
              split
              · exact ⟨rfl, fun _ => he⟩
              · exact ⟨rfl, (fun h => by cases h)⟩
            cases hb : (innerM { f with regs := x } d).2 with
            | true => rw [if_pos rfl]; exact ⟨by rw [putHead_self]; exact hi, e1.1.trans hd, rfl, fun p h => ⟨p.regs, p, h, rfl⟩⟩
            | false => rw [if_neg Bool.false_ne_true]; exact along_body A hc df n _ _ st _ hi (e1.2 hb) (e1.1.trans hd)
      rw [if_neg k4]
      obtain ⟨q1, q2, q3, q4, q5⟩ := stepM_par { m with made := m.made + 1 } f st.head? s
      have h := A.step _ f st s hp1 he hmem k4 k11
      cases hb : (stepM { m with made := m.made + 1 } f st.head? s).2.2.2 with
      | true => rw [if_pos rfl]; exact ⟨h, q1.trans hd, q4, q5⟩
      | false =>
        rw [if_neg Bool.false_ne_true]
        have hh := putHead_tail _ st q4
        have := along_body A hc df n _ _ _ (at_ + 1) h (q3 hb he) (q1.trans hd)
        rw [hh.1] at this
        revert this
        cases bodyM call L fuel n (stepM { m with made := m.made + 1 } f st.head? s).1 (stepM { m with made := m.made + 1 } f st.head? s).2.1 (stepM { m with made := m.made + 1 } f st.head? s).2.2.1 (at_ + 1) with
        | spent m2 => exact fun h => h
        | ok m2 x =>
          obtain ⟨f2, par2⟩ := x
          rintro ⟨a1, a2, a3, a4⟩
          refine ⟨by rw [putHead_put _ _ _ q4] at a1; exact a1, a2, by rw [a3, hh.1, q4], fun p hp => ?_⟩
          obtain ⟨x, p0, e1, e2⟩ := a4 p hp
          rw [hh.1] at e1
          obtain ⟨y, p1, e3, e4⟩ := q5 p0 e1
          exact ⟨x, p1, e3, by rw [e2, e4]⟩
theorem along_runs (A : Along L fuel T P F) {call : CallM} (hc : CallOk L T P F call) (df : Bool) : ∀ (n : Nat) (m : Ma) (f : Fr) (st : List Fr), P m (f :: st) → f.df = df → f.runs.length = n →
    match runsM call n m f with
    | .spent m' => ∃ st', P m' st'
    | .ok m' f' => P m' (f' :: st) ∧ f'.df = df
  | 0, m, f, st, hp, hd, hn => ⟨hp, hd⟩
  | n + 1, m, f, st, hp, hd, hn => by
    rw [runsM]
    simp only
    have hp1 := A.drop m f st n hp
    obtain ⟨last, hl⟩ : ∃ last, f.runs[n]? = some last := ⟨f.runs[n]'(by omega), by simp⟩
    have hl' : f.runs.getD n (0, 0) = last := by rw [List.getD_eq_getElem?_getD, hl]; rfl
    rw [hl']
    have hruns : f.runs = f.runs.take n ++ [last] := by
      have h1 : f.runs.take (n + 1) = f.runs := List.take_of_length_le (by omega)
      rw [← h1, List.take_add_one, hl, List.take_append_of_le_length (by simp [hn]), List.take_take, Nat.min_self]; rfl
    have h := hc m ({ f with runs := f.runs.take n } :: st) last.1 last.2 true hp1 (fun h => by cases h) (fun h => by cases h) (fun _ => ⟨_, rfl, [], by
      show P m ({ f with runs := f.runs.take n ++ [(last.1, last.2)] } :: st)
      rw [show f.runs.take n ++ [(last.1, last.2)] = f.runs from hruns.symm]; exact hp⟩)
    rw [show (({ f with runs := f.runs.take n } : Fr) :: st).head? = some { f with runs := f.runs.take n } from rfl] at h
    revert h
    cases call m last.1 last.2 (some { f with runs := f.runs.take n }) true with
    | spent m2 => exact fun h => h
    | ok m2 x =>
      obtain ⟨pf, d⟩ := x
      rintro ⟨h1, h2, h3, h4⟩
      cases pf with
      | none => simp at h3
      | some g =>
        obtain ⟨x, p0, hp0, rfl⟩ := h4 g rfl
        injection hp0 with hp0
        subst hp0
        have hi := A.behind m2 _ d st h1 h2
        simp only [Option.getD_some] at hi ⊢
        have e1 : ∀ g : Fr, (behindM m2 g d).2.df = g.df ∧ (behindM m2 g d).2.runs = g.runs := by
          intro g
          unfold behindM
          simp only
          split
          · exact ⟨rfl, rfl⟩
          · split
            · exact ⟨rfl, rfl⟩
            · split
              · exact ⟨rfl, rfl⟩
              · split <;> exact ⟨rfl, rfl⟩
        exact along_runs A hc df n _ _ st hi ((e1 _).1.trans hd) (by rw [(e1 _).2]; simp; omega)
theorem along_call (A : Along L fuel T P F) : ∀ d : Nat, CallOk L T P F (callM L fuel d)
  | 0 => fun m st fn arg df hp _ _ _ => ⟨_, hp⟩
  | d + 1 => fun m st fn arg df hp h0 h1 h2 => by
    rw [callM]
    simp only
    have hs := A.start m st fn arg df hp h0 h1 h2
    have hb := along_body A (along_call A d) df (fuel + 1) (startM m fn arg st.head? df).1 (startM m fn arg st.head? df).2 st 0 hs rfl rfl
    revert hb
    cases bodyM (callM L fuel d) L fuel (fuel + 1) (startM m fn arg st.head? df).1 (startM m fn arg st.head? df).2 st.head? 0 with
    | spent m2 => exact fun h => h
    | ok m2 x =>
      obtain ⟨f, par⟩ := x
      rintro ⟨a1, a2, a3, a4⟩
      simp only
      have hr := along_runs A (along_call A d) df f.runs.length m2 f (putHead par st) a1 a2 rfl
      revert hr
      cases runsM (callM L fuel d) f.runs.length m2 f with
      | spent m3 => exact fun h => h
      | ok m3 f3 =>
        rintro ⟨b1, b2⟩
        exact ⟨A.finish m3 f3 _ b1, b2, a3, a4⟩
end
/-! What holds of the numbers, and of the calls' links. -/
def n16 (x : Int) : Prop := -32768 ≤ x ∧ x ≤ 32767
def StepOk (nf : Nat) (s : St) : Prop := 1 ≤ s.k ∧ s.k ≤ 13 ∧ (s.k = 1 → 0 ≤ s.a ∧ s.a ≤ 3 ∧ n16 s.b) ∧ (s.k = 2 → 0 ≤ s.a ∧ s.a ≤ 3 ∧ 0 ≤ s.b ∧ s.b ≤ 3) ∧ (s.k = 4 ∨ s.k = 5 → 0 ≤ s.a ∧ s.a < nf ∧ 0 ≤ s.b ∧ s.b ≤ 3) ∧ (s.k = 11 → 0 ≤ s.a ∧ s.a ≤ 8 ∧ 0 ≤ s.b ∧ s.b ≤ 3) ∧
  (s.k = 3 ∨ s.k = 6 ∨ s.k = 7 ∨ s.k = 8 ∨ s.k = 9 ∨ s.k = 12 ∨ s.k = 13 → 0 ≤ s.a ∧ s.a ≤ 3)
def ProgOk (L : List (List St)) : Prop := ∀ fn s, s ∈ bodyOf L fn → StepOk L.length s
def FnOk (L : List (List St)) (fn : Int) : Prop := 0 ≤ fn ∧ fn < L.length
/-- A frame's numbers. -/
structure FrOk (L : List (List St)) (np nc : Nat) (f : Fr) : Prop where
  len : f.regs.length = 4
  regs : ∀ x ∈ f.regs, n16 x
  fn : FnOk L f.fn
  runs : ∀ x ∈ f.runs, FnOk L x.1 ∧ n16 x.2
  en : f.en = 1 ∨ f.en = 2 ∨ f.en = 3
  pa : f.en = 2 → 0 ≤ f.pa ∧ f.pa.toNat < np
  ct : f.ct = true → f.df = true
  id : f.id < nc
structure MaOk (fuel : Nat) (m : Ma) : Prop where
  made : m.made ≤ fuel
  shared : n16 m.shared
  pans : ∀ p ∈ m.panics, n16 p.va
theorem n16_zero : n16 0 := ⟨by omega, by omega⟩
theorem n16_one : n16 1 := ⟨by omega, by omega⟩
theorem n16_w (n : Int) : n16 (w16 n) := by unfold n16 w16; omega
theorem regAt_ok {rs : List Int} (h : ∀ x ∈ rs, n16 x) (a : Int) : n16 (regAt rs a) := by
  unfold regAt
  rw [List.getD_eq_getElem?_getD]
  cases e : rs[a.toNat]? with
  | none => exact n16_zero
  | some v => exact h v (List.mem_of_getElem? e)
theorem regSet_ok {rs : List Int} (h : ∀ x ∈ rs, n16 x) (a : Int) {v : Int} (hv : n16 v) : ∀ x ∈ regSet rs a v, n16 x := fun x hx => by
  rcases List.mem_or_eq_of_mem_set hx with h' | h'
  · exact h x h'
  · subst h'; exact hv
theorem regSet_len' (rs : List Int) (a x : Int) : (regSet rs a x).length = rs.length := by simp [regSet]
theorem pnAt_ok {fuel : Nat} {m : Ma} (h : MaOk fuel m) (k : Int) : n16 (pnAt m k).va := by
  unfold pnAt
  rw [List.getD_eq_getElem?_getD]
  cases e : m.panics[k.toNat]? with
  | none => exact n16_zero
  | some v => exact h.pans v (List.mem_of_getElem? e)
theorem FrOk.mono {L : List (List St)} {np np' nc nc' : Nat} {f : Fr} (h : FrOk L np nc f) (h1 : np ≤ np') (h2 : nc ≤ nc') : FrOk L np' nc' f :=
  ⟨h.len, h.regs, h.fn, h.runs, h.en, fun e => ⟨(h.pa e).1, Nat.lt_of_lt_of_le (h.pa e).2 h1⟩, h.ct, Nat.lt_of_lt_of_le h.id h2⟩
theorem FrOk.regs' {L : List (List St)} {np nc : Nat} {f : Fr} (h : FrOk L np nc f) {rs : List Int} (h1 : rs.length = 4) (h2 : ∀ x ∈ rs, n16 x) : FrOk L np nc { f with regs := rs } :=
  ⟨h1, h2, h.fn, h.runs, h.en, h.pa, h.ct, h.id⟩
theorem FrOk.set {L : List (List St)} {np nc : Nat} {f : Fr} (h : FrOk L np nc f) (a : Int) {v : Int} (hv : n16 v) : FrOk L np nc { f with regs := regSet f.regs a v } :=
  h.regs' (by rw [regSet_len']; exact h.len) (regSet_ok h.regs a hv)
theorem pnSet_ok {fuel : Nat} {m : Ma} (h : MaOk fuel m) (k : Int) (g : Pn → Pn) (hg : ∀ x, (g x).va = x.va) : MaOk fuel (pnSet m k g) := ⟨h.made, h.shared, fun p hp => by
  rcases List.mem_or_eq_of_mem_set hp with h' | h'
  · exact h.pans p h'
  · subst h'; rw [hg]; exact pnAt_ok h k⟩
theorem MaOk.of {fuel : Nat} {m m' : Ma} (h : MaOk fuel m) (h1 : m'.made = m.made) (h2 : m'.shared = m.shared) (h3 : m'.panics = m.panics) : MaOk fuel m' := ⟨by rw [h1]; exact h.made, by rw [h2]; exact h.shared, by rw [h3]; exact h.pans⟩
/-- The effect of a step on the numbers. -/
theorem step_ok {L : List (List St)} {fuel : Nat} {m : Ma} {f : Fr} {par : Option Fr} {s : St} (hs : StepOk L.length s) (hm : MaOk fuel m) (hf : FrOk L m.panics.length m.calls.length f) (hp : ∀ p, par = some p → FrOk L m.panics.length m.calls.length p) :
    MaOk fuel (stepM m f par s).1 ∧ FrOk L (stepM m f par s).1.panics.length (stepM m f par s).1.calls.length (stepM m f par s).2.1 ∧ (∀ p, (stepM m f par s).2.2.1 = some p → FrOk L (stepM m f par s).1.panics.length (stepM m f par s).1.calls.length p) ∧
      m.panics.length ≤ (stepM m f par s).1.panics.length ∧ (stepM m f par s).1.calls = m.calls ∧ (stepM m f par s).1.depth = m.depth := by
  obtain ⟨_, _, h1, h2, h5, h11, h3⟩ := hs
  unfold stepM
  by_cases k1 : s.k = 1
  · rw [if_pos k1]; exact ⟨hm, hf.set _ (h1 k1).2.2, hp, Nat.le_refl _, rfl, rfl⟩
  rw [if_neg k1]
  by_cases k2 : s.k = 2
  · rw [if_pos k2]; exact ⟨hm, hf.set _ (n16_w _), hp, Nat.le_refl _, rfl, rfl⟩
  rw [if_neg k2]
  by_cases k3 : s.k = 3
  · rw [if_pos k3]; exact ⟨hm.of rfl rfl rfl, hf, hp, Nat.le_refl _, rfl, rfl⟩
  rw [if_neg k3]
  by_cases k5 : s.k = 5
  · rw [if_pos k5]
    refine ⟨hm.of rfl rfl rfl, ⟨hf.len, hf.regs, hf.fn, fun x hx => ?_, hf.en, hf.pa, hf.ct, hf.id⟩, hp, Nat.le_refl _, rfl, rfl⟩
    rcases List.mem_append.1 hx with hx | hx
    · exact hf.runs x hx
    · rw [List.mem_singleton.1 hx]
      have := h5 (.inr k5)
      exact ⟨⟨this.1, this.2.1⟩, regAt_ok hf.regs _⟩
  rw [if_neg k5]
  by_cases k6 : s.k = 6
  · rw [if_pos k6]
    have hl : (m.panics ++ [(⟨f.id, f.fn, regAt f.regs s.a, m.depth, 0, -1, -1, f.ct, []⟩ : Pn)]).length = m.panics.length + 1 := by simp
    refine ⟨⟨hm.made, hm.shared, fun p hx => ?_⟩, ⟨hf.len, hf.regs, hf.fn, hf.runs, .inr (.inl rfl), fun _ => ⟨?_, ?_⟩, hf.ct, hf.id⟩, fun p h => (hp p h).mono ?_ (Nat.le_refl _), ?_, rfl, rfl⟩
    · rcases List.mem_append.1 hx with hx | hx
      · exact hm.pans p hx
      · rw [List.mem_singleton.1 hx]; exact regAt_ok hf.regs _
    · show (0 : Int) ≤ (m.panics.length : Nat); omega
    · show ((m.panics.length : Nat) : Int).toNat < _
      simp only [tellM, Int.toNat_natCast]; omega
    · show m.panics.length ≤ (m.panics ++ _).length; omega
    · show m.panics.length ≤ (m.panics ++ _).length; omega
  rw [if_neg k6]
  by_cases k7 : s.k = 7
  · rw [if_pos k7]
    have no : MaOk fuel m ∧ FrOk L m.panics.length m.calls.length { f with regs := regSet (regSet f.regs s.a 0) 3 0 } ∧ (∀ p, par = some p → FrOk L m.panics.length m.calls.length p) ∧ m.panics.length ≤ m.panics.length ∧ m.calls = m.calls ∧ m.depth = m.depth :=
      ⟨hm, (hf.set s.a n16_zero).set 3 n16_zero, hp, Nat.le_refl _, rfl, rfl⟩
    cases par with
    | none => exact no
    | some p =>
      simp only
      split
      · rename_i hb
        have hdf : f.df = true := by simp at hb; exact hb.1.1
        have hl : ((pnSet m p.pa (fun x => { x with fa := 1 })).panics).length = m.panics.length := by simp [pnSet]
        have hva := pnAt_ok hm p.pa
        have hms := pnSet_ok hm p.pa (fun x => { x with fa := 1 }) fun _ => rfl
        have e := (hf.set s.a hva).set 3 n16_one
        refine ⟨⟨hms.made, hms.shared, hms.pans⟩, ?_, fun q hq => (hp q hq).mono (Nat.le_of_eq hl.symm) (Nat.le_refl _), Nat.le_of_eq hl.symm, rfl, rfl⟩
        exact (⟨e.len, e.regs, e.fn, e.runs, e.en, e.pa, fun _ => hdf, e.id⟩ : FrOk L m.panics.length m.calls.length { f with ct := true, regs := regSet (regSet f.regs s.a (pnAt m p.pa).va) 3 1 }).mono (Nat.le_of_eq hl.symm) (Nat.le_refl _)
      · exact no
  rw [if_neg k7]
  by_cases k8 : s.k = 8
  · rw [if_pos k8]; exact ⟨hm, hf.set _ (regAt_ok hf.regs _), hp, Nat.le_refl _, rfl, rfl⟩
  rw [if_neg k8]
  by_cases k9 : s.k = 9
  · rw [if_pos k9]
    cases par with
    | none => exact ⟨hm, hf, hp, Nat.le_refl _, rfl, rfl⟩
    | some p =>
      simp only
      split
      · exact ⟨hm, hf, fun q hq => by injection hq with hq; subst hq; exact (hp p rfl).set _ (regAt_ok hf.regs _), Nat.le_refl _, rfl, rfl⟩
      · exact ⟨hm, hf, hp, Nat.le_refl _, rfl, rfl⟩
  rw [if_neg k9]
  by_cases k10 : s.k = 10
  · rw [if_pos k10]; exact ⟨hm, ⟨hf.len, hf.regs, hf.fn, hf.runs, .inr (.inr rfl), fun e => by simp at e, hf.ct, hf.id⟩, hp, Nat.le_refl _, rfl, rfl⟩
  rw [if_neg k10]
  by_cases k12 : s.k = 12
  · rw [if_pos k12]; exact ⟨⟨hm.made, regAt_ok hf.regs _, hm.pans⟩, hf, hp, Nat.le_refl _, rfl, rfl⟩
  rw [if_neg k12]
  by_cases k13 : s.k = 13
  · rw [if_pos k13]; exact ⟨hm, hf.set _ hm.shared, hp, Nat.le_refl _, rfl, rfl⟩
  rw [if_neg k13]; exact ⟨hm, hf, hp, Nat.le_refl _, rfl, rfl⟩
end Go.Proofs.Ytobikkdnalnllaa
namespace Go.Proofs.Ytobikkdnalnllaa
open Go.RowKit SL
set_option linter.unusedVariables false
set_option linter.unusedSimpArgs false
/-! What a trace tells. -/
structure C5 where
  fn : Int
  up : Int
  df : Bool
  en : Int
  va : Int
def c5 (c : Ci) : C5 := ⟨c.fn, c.up, c.df, c.en, c.va⟩
structure R3 where
  calls : List C5
  owners : List Int
  now : Int
def end3 (k : Int) : Int := if k = 7 then 1 else if k = 8 then 2 else if k = 9 then 3 else 0
def open3 (r : R3) (e : Ev) : R3 := if e.k = 1 ∨ e.k = 3 then ⟨r.calls ++ [⟨e.f, r.now, e.k == 3, 4, 0⟩], r.owners, (r.calls.length : Nat)⟩ else r
def shut3 (r : R3) (e : Ev) : Option R3 :=
  if end3 e.k = 0 then some r
  else if r.now < 0 then none
  else match r.calls[r.now.toNat]? with
    | none => none
    | some c => some ⟨r.calls.set r.now.toNat ⟨c.fn, c.up, c.df, end3 e.k, e.v⟩, r.owners, c.up⟩
def step3 (r : R3) (e : Ev) : Option R3 := shut3 { open3 r e with owners := (open3 r e).owners ++ [(open3 r e).now] } e
def read3 (t : List Ev) : Option R3 := t.foldl (fun o e => o.bind (step3 · e)) (some ⟨[], [], -1⟩)
theorem read3_snoc (t : List Ev) (e : Ev) : read3 (t ++ [e]) = (read3 t).bind (step3 · e) := by simp [read3, List.foldl_append]
structure R4 where
  calls : List (Bool × Int)
  panics : List (Int × Int × Int)
  depths : List Int
  unwound : List (List Int)
  recovers : List (Int × Int)
  replaced : List Int
  before : List Int
def fate4 (l : List (Int × Int × Int)) (k : Nat) (x : Int) : List (Int × Int × Int) := match l[k]? with
  | some p => l.set k (p.1, p.2.1, x)
  | none => l
/-- A number of a panic. -/
def okN (r : R4) (k : Int) : Bool := decide (0 ≤ k) && decide (k.toNat < r.panics.length)
def unwind4 (r : R4) (e : Ev) (t : Bool × Int) (rest : List (Bool × Int)) : R4 :=
  let r1 := { r with calls := rest, unwound := r.unwound.set t.2.toNat (r.unwound.getD t.2.toNat [] ++ [e.f]) }
  match rest with
  | [] => { r1 with panics := fate4 r.panics t.2.toNat 3 }
  | p :: rest' =>
    if t.1 && decide (0 ≤ p.2) then { r1 with panics := fate4 r.panics p.2.toNat 2, replaced := r.replaced.set p.2.toNat t.2, before := r.before.set t.2.toNat p.2, calls := (p.1, t.2) :: rest' }
    else { r1 with calls := (p.1, t.2) :: rest' }
def exit4 (r : R4) (t : Bool × Int) (rest : List (Bool × Int)) : R4 :=
  match rest with
  | [] => { r with calls := [] }
  | p :: rest' => if t.1 && decide (0 ≤ p.2) then { r with panics := fate4 r.panics p.2.toNat 4, calls := (p.1, -1) :: rest' } else { r with calls := (p.1, -1) :: rest' }
def step4 (r : R4) (e : Ev) : Option R4 :=
  if e.k = 1 ∨ e.k = 3 then some { r with calls := (e.k == 3, -1) :: r.calls }
  else if e.k = 5 then match r.calls with
    | [] => none
    | t :: rest => some ⟨(t.1, (r.panics.length : Nat)) :: rest, r.panics ++ [(e.f, e.v, 0)], r.depths ++ [((r.calls.length : Nat) : Int)], r.unwound ++ [[]], r.recovers, r.replaced ++ [-1], r.before ++ [-1]⟩
  else if e.k = 6 then match r.calls with
    | t :: p :: rest => if okN r p.2 then some { r with panics := fate4 r.panics p.2.toNat 1, recovers := r.recovers ++ [(p.2, e.f)], calls := t :: (p.1, -1) :: rest } else none
    | _ => none
  else if e.k = 7 then match r.calls with
    | [] => none
    | t :: rest => some { r with calls := rest }
  else if e.k = 8 then match r.calls with
    | [] => none
    | t :: rest => if okN r t.2 && (match rest with | p :: _ => !t.1 || !decide (0 ≤ p.2) || okN r p.2 | [] => true) then some (unwind4 r e t rest) else none
  else if e.k = 9 then match r.calls with
    | [] => none
    | t :: rest => if (match rest with | p :: _ => !t.1 || !decide (0 ≤ p.2) || okN r p.2 | [] => true) then some (exit4 r t rest) else none
  else some r
def read4 (t : List Ev) : Option R4 := t.foldl (fun o e => o.bind (step4 · e)) (some ⟨[], [], [], [], [], [], []⟩)
theorem read4_snoc (t : List Ev) (e : Ev) : read4 (t ++ [e]) = (read4 t).bind (step4 · e) := by simp [read4, List.foldl_append]
/-- Of the recovers: whose they are; and how many panics are made by calls that have recovered. -/
def step5 (x : List Int × Int) (e : Ev × Int) : List Int × Int :=
  if e.1.k = 6 then (x.1 ++ [e.2], x.2) else if e.1.k = 5 ∧ x.1.contains e.2 = true then (x.1, x.2 + 1) else x
def read5 (t : List Ev) (o : List Int) : List Int × Int := (t.zip o).foldl step5 ([], 0)
theorem read5_snoc {t : List Ev} {o : List Int} (h : o.length = t.length) (e : Ev) (x : Int) : read5 (t ++ [e]) (o ++ [x]) = step5 (read5 t o) (e, x) := by
  unfold read5
  rw [List.zip_append h.symm, List.foldl_append]; rfl
/-! What holds all along. -/
def headId : List Fr → Int
  | [] => -1
  | f :: _ => (f.id : Nat)
def Links (m : Ma) : List Fr → Prop
  | [] => True
  | f :: st => (∃ c, m.calls[f.id]? = some c ∧ c.up = headId st ∧ c.fn = f.fn ∧ c.df = f.df) ∧ headId st < f.id ∧ Links m st
def Nested : List Fr → Prop
  | f :: g :: st => (f.df = false → g.en = 1) ∧ Nested (g :: st)
  | _ => True
def Over (f g : Fr) : Prop := f.en = 2 → g.en = 2 → g.pa < f.pa
def onL : Bool → List Fr → List (Bool × Int)
  | _, [] => []
  | cnt, f :: st => (f.df, if f.en = 2 ∧ cnt = false then f.pa else -1) :: onL f.ct st
def fnOf (m : Ma) (k : Int) : Int := (m.calls.getD k.toNat ⟨0, 0, false, 0, 0, 0⟩).fn
def mk4 (m : Ma) (on : List (Bool × Int)) : R4 :=
  ⟨on, m.panics.map (fun p => (p.fn, p.va, p.fa)), m.panics.map (·.de), m.panics.map (·.un), m.recs.map (fun r => (r.pa, fnOf m r.ca)), m.panics.map (·.by_), m.panics.map (·.la)⟩
def agN (l : List Pn) : Int := ((l.filter (·.ag)).length : Nat)
structure CallsOk (m : Ma) : Prop where
  up : ∀ (k : Nat) c, m.calls[k]? = some c → -1 ≤ c.up ∧ c.up < (k : Int)
  en : ∀ c ∈ m.calls, 1 ≤ c.en ∧ c.en ≤ 4
structure RecsOk (m : Ma) : Prop where
  ok : ∀ r ∈ m.recs, 0 ≤ r.ca ∧ (∃ c, m.calls[r.ca.toNat]? = some c ∧ c.up = r.sa) ∧ 0 ≤ r.sa ∧ 0 ≤ r.pa ∧ r.pa.toNat < m.panics.length
structure PansOk (m : Ma) : Prop where
  la : ∀ (k : Nat) p, m.panics[k]? = some p → -1 ≤ p.la ∧ p.la < (k : Int)
  fa : ∀ p ∈ m.panics, 0 ≤ p.fa ∧ p.fa ≤ 4 ∧ p.fa ≠ 3
/-- The first part: numbers and links. -/
structure P1 (L : List (List St)) (fuel : Nat) (m : Ma) (st : List Fr) : Prop where
  ma : MaOk fuel m
  fr : ∀ f ∈ st, FrOk L m.panics.length m.calls.length f
  nest : Nested st
  dep : m.depth = st.length
  links : Links m st
  cs : CallsOk m
  rs : RecsOk m
  ps : PansOk m
  over : st.Pairwise Over
/-- The second part: what the trace tells. -/
structure P2 (m : Ma) (st : List Fr) (on : List (Bool × Int)) : Prop where
  r3 : read3 m.trace = some ⟨m.calls.map c5, m.owners, headId st⟩
  r4 : read4 m.trace = some (mk4 m on)
  len : m.owners.length = m.trace.length
  r5 : read5 m.trace m.owners = (m.recs.map (·.ca), agN m.panics)
  ct : ∀ f ∈ st, f.ct = (m.recs.map (·.ca)).contains (f.id : Int)
def P (L : List (List St)) (fuel : Nat) (m : Ma) (st : List Fr) : Prop := P1 L fuel m st ∧ P2 m st (onL false st)
/-- The last of all calls has ended: its panic has arrived. -/
def arrive (m : Ma) (f : Fr) : Ma := if f.en = 2 then pnSet m f.pa (fun x => { x with fa := 3 }) else m
structure Ended (L : List (List St)) (fuel : Nat) (m : Ma) (f : Fr) : Prop where
  ma : MaOk fuel m
  fr : FrOk L m.panics.length m.calls.length f
  cs : CallsOk m
  rs : RecsOk m
  ps : PansOk m
  dep : m.depth = 0
  id : f.id = 0
  r3 : read3 m.trace = some ⟨m.calls.map c5, m.owners, -1⟩
  r4 : read4 m.trace = some (mk4 (arrive m f) [])
  len : m.owners.length = m.trace.length
  r5 : read5 m.trace m.owners = (m.recs.map (·.ca), agN m.panics)
  res : ∃ c, m.calls[0]? = some c ∧ c.en = f.en ∧ c.va = (if f.en = 1 then regAt f.regs 1 else if f.en = 2 then (pnAt m f.pa).va else 0)
def F (L : List (List St)) (fuel : Nat) (m : Ma) (d : Fr) : List Fr → Prop
  | [] => Ended L fuel m d
  | f :: st => if d.df then P L fuel (behindM m f d).1 ((behindM m f d).2 :: st) else f.en = 1 → P L fuel m ((innerM f d).1 :: st)
/-! Frames that differ in nothing that is told. -/
theorem P2.congr {m m' : Ma} {st st' : List Fr} {on : List (Bool × Int)} (h : P2 m st on) (h1 : m'.trace = m.trace) (h2 : m'.owners = m.owners) (h3 : m'.calls = m.calls) (h4 : m'.panics = m.panics) (h5 : m'.recs = m.recs)
    (h6 : headId st' = headId st) (h7 : ∀ f ∈ st', ∃ g ∈ st, g.ct = f.ct ∧ g.id = f.id) : P2 m' st' on := by
  refine ⟨?_, ?_, by rw [h1, h2]; exact h.len, by rw [h1, h2, h4, h5]; exact h.r5, fun f hf => ?_⟩
  · rw [h1, h2, h3, h6]; exact h.r3
  · rw [h1, h.r4]; unfold mk4 fnOf; rw [h3, h4, h5]
  · obtain ⟨g, hg, e1, e2⟩ := h7 f hf
    rw [← e1, ← e2, h5]; exact h.ct g hg
theorem Links.congr {m m' : Ma} (h : m'.calls = m.calls) : ∀ {st : List Fr}, Links m st → Links m' st
  | [], _ => trivial
  | f :: st, ⟨⟨c, h1, h2⟩, h3, h4⟩ => ⟨⟨c, by rw [h]; exact h1, h2⟩, h3, Links.congr h h4⟩
/-- What a step that is no call and no jump does. -/
inductive Shape (m : Ma) (f : Fr) (par : Option Fr) : Ma → Fr → Option Fr → Prop
  | still (m' : Ma) (f' : Fr) (par' : Option Fr) (h1 : m'.trace = m.trace) (h2 : m'.owners = m.owners) (h3 : m'.calls = m.calls) (h4 : m'.panics = m.panics) (h5 : m'.recs = m.recs) (h6 : m'.depth = m.depth)
      (g1 : f'.id = f.id) (g2 : f'.fn = f.fn) (g3 : f'.df = f.df) (g4 : f'.ct = f.ct) (g5 : f'.en ≠ 2) : Shape m f par m' f' par'
  | told (k x v : Int) (hk : k = 2 ∨ k = 4) (f' : Fr) (g1 : f'.id = f.id) (g2 : f'.fn = f.fn) (g3 : f'.df = f.df) (g4 : f'.ct = f.ct) (g5 : f'.en ≠ 2) : Shape m f par (tellM m k x v f.id) f' par
  | panic (v : Int) : Shape m f par (tellM { m with panics := m.panics ++ [⟨f.id, f.fn, v, m.depth, 0, -1, -1, f.ct, []⟩] } 5 f.fn v f.id) { f with en := 2, pa := m.panics.length } par
  | recover (p : Fr) (hp : par = some p) (hd : f.df = true) (hc : f.ct = false) (he : p.en = 2) (rs : List Int) :
      Shape m f par (tellM { pnSet m p.pa (fun x => { x with fa := 1 }) with recs := m.recs ++ [⟨f.id, p.id, p.pa⟩] } 6 f.fn (pnAt m p.pa).va f.id) { f with ct := true, regs := rs } par
theorem shape (m : Ma) (f : Fr) (par : Option Fr) (s : St) (h : f.en = 1) : Shape m f par (stepM m f par s).1 (stepM m f par s).2.1 (stepM m f par s).2.2.1 := by
  have ne : f.en ≠ 2 := by omega
  unfold stepM
  by_cases k1 : s.k = 1
  · rw [if_pos k1]; exact .still _ _ _ rfl rfl rfl rfl rfl rfl rfl rfl rfl rfl ne
  rw [if_neg k1]
  by_cases k2 : s.k = 2
  · rw [if_pos k2]; exact .still _ _ _ rfl rfl rfl rfl rfl rfl rfl rfl rfl rfl ne
  rw [if_neg k2]
  by_cases k3 : s.k = 3
  · rw [if_pos k3]; exact .told 4 _ _ (.inr rfl) _ rfl rfl rfl rfl ne
  rw [if_neg k3]
  by_cases k5 : s.k = 5
  · rw [if_pos k5]; exact .told 2 _ _ (.inl rfl) _ rfl rfl rfl rfl ne
  rw [if_neg k5]
  by_cases k6 : s.k = 6
  · rw [if_pos k6]; exact .panic _
  rw [if_neg k6]
  by_cases k7 : s.k = 7
  · rw [if_pos k7]
    cases par with
    | none => exact .still _ _ _ rfl rfl rfl rfl rfl rfl rfl rfl rfl rfl ne
    | some p =>
      simp only
      split
      · rename_i hb
        have h1 : f.df = true ∧ f.ct = false ∧ p.en = 2 := by simp at hb; exact ⟨hb.1.1, hb.1.2, hb.2⟩
        exact .recover p rfl h1.1 h1.2.1 h1.2.2 _
      · exact .still _ _ _ rfl rfl rfl rfl rfl rfl rfl rfl rfl rfl ne
  rw [if_neg k7]
  by_cases k8 : s.k = 8
  · rw [if_pos k8]; exact .still _ _ _ rfl rfl rfl rfl rfl rfl rfl rfl rfl rfl ne
  rw [if_neg k8]
  by_cases k9 : s.k = 9
  · rw [if_pos k9]
    cases par with
    | none => exact .still _ _ _ rfl rfl rfl rfl rfl rfl rfl rfl rfl rfl ne
    | some p => simp only; split <;> exact .still _ _ _ rfl rfl rfl rfl rfl rfl rfl rfl rfl rfl ne
  rw [if_neg k9]
  by_cases k10 : s.k = 10
  · rw [if_pos k10]; exact .still _ _ _ rfl rfl rfl rfl rfl rfl rfl rfl rfl rfl (by show (3 : Int) ≠ 2; decide)
  rw [if_neg k10]
  by_cases k12 : s.k = 12
  · rw [if_pos k12]; exact .still _ _ _ rfl rfl rfl rfl rfl rfl rfl rfl rfl rfl ne
  rw [if_neg k12]
  by_cases k13 : s.k = 13
  · rw [if_pos k13]; exact .still _ _ _ rfl rfl rfl rfl rfl rfl rfl rfl rfl rfl ne
  rw [if_neg k13]; exact .still _ _ _ rfl rfl rfl rfl rfl rfl rfl rfl rfl rfl ne
theorem step3_plain {r : R3} {e : Ev} (h : e.k = 2 ∨ e.k = 4 ∨ e.k = 5 ∨ e.k = 6) : step3 r e = some { r with owners := r.owners ++ [r.now] } := by
  have h1 : ¬ (e.k = 1 ∨ e.k = 3) := by omega
  have h2 : end3 e.k = 0 := by unfold end3; rw [if_neg (by omega), if_neg (by omega), if_neg (by omega)]
  unfold step3 shut3 open3
  rw [if_pos h2, if_neg h1]
theorem step4_plain {r : R4} {e : Ev} (h : e.k = 2 ∨ e.k = 4) : step4 r e = some r := by
  unfold step4
  rw [if_neg (by omega), if_neg (by omega), if_neg (by omega), if_neg (by omega), if_neg (by omega), if_neg (by omega)]
theorem step5_plain {x : List Int × Int} {e : Ev} {o : Int} (h : e.k ≠ 5 ∧ e.k ≠ 6) : step5 x (e, o) = x := by
  unfold step5
  rw [if_neg h.2, if_neg (fun q => h.1 q.1)]
/-- An event that turns nothing that is told. -/
theorem P2.told {m : Ma} {st : List Fr} {on : List (Bool × Int)} (h : P2 m st on) {k x v : Int} (hk : k = 2 ∨ k = 4) {o : Nat} (ho : headId st = o) : P2 (tellM m k x v o) st on := by
  refine ⟨?_, ?_, ?_, ?_, h.ct⟩
  · show read3 (m.trace ++ [_]) = _
    rw [read3_snoc, h.r3, Option.bind_some, step3_plain (by show k = 2 ∨ k = 4 ∨ k = 5 ∨ k = 6; omega), ho]; rfl
  · show read4 (m.trace ++ [_]) = _
    rw [read4_snoc, h.r4, Option.bind_some, step4_plain (by exact hk)]; rfl
  · show (m.owners ++ [_]).length = (m.trace ++ [_]).length
    rw [List.length_append, List.length_append, h.len]; rfl
  · show read5 (m.trace ++ [_]) (m.owners ++ [_]) = _
    rw [read5_snoc h.len, h.r5, step5_plain (by show k ≠ 5 ∧ k ≠ 6; omega)]; rfl
theorem fate_set (l : List Pn) (k : Nat) (x : Int) (hk : k < l.length) :
    fate4 (l.map (fun p => (p.fn, p.va, p.fa))) k x = (l.set k { (l.getD k ⟨0, 0, 0, 0, 0, 0, 0, false, []⟩) with fa := x }).map (fun p => (p.fn, p.va, p.fa)) := by
  unfold fate4
  rw [List.getElem?_map, List.getElem?_eq_getElem hk]
  simp only [Option.map_some]
  rw [List.map_set, List.getD_eq_getElem?_getD, List.getElem?_eq_getElem hk]; rfl
theorem map_set_same {α β : Type} (f : α → β) (l : List α) (k : Nat) (x : α) (h : ∀ y, l[k]? = some y → f x = f y) : (l.set k x).map f = l.map f := by
  apply List.ext_getElem?
  intro i
  rw [List.getElem?_map, List.getElem?_map, List.getElem?_set]
  split
  · subst_vars
    split
    · rename_i hk
      rw [List.getElem?_eq_getElem hk]
      simp only [Option.map_some]
      rw [h _ (List.getElem?_eq_getElem hk)]
    · rw [List.getElem?_eq_none (by omega)]
  · rfl
theorem pnAt_get {m : Ma} {k : Int} {y : Pn} (h : m.panics[k.toNat]? = some y) : pnAt m k = y := by unfold pnAt; rw [List.getD_eq_getElem?_getD, h]; rfl
theorem map_pn {β : Type} (m : Ma) (k : Int) (g : Pn → Pn) (f : Pn → β) (h : ∀ x, f (g x) = f x) : (pnSet m k g).panics.map f = m.panics.map f :=
  map_set_same f m.panics k.toNat _ fun y hy => by rw [pnAt_get hy, h]
theorem agN_pn (m : Ma) (k : Int) (g : Pn → Pn) (h : ∀ x, (g x).ag = x.ag) : agN (pnSet m k g).panics = agN m.panics := by
  have e : ∀ l : List Pn, agN l = (((l.map (·.ag)).filter id).length : Nat) := by
    intro l; unfold agN; rw [List.filter_map, List.length_map]; rfl
  rw [e, e, map_pn m k g (·.ag) h]
theorem fate_pn (m : Ma) (k : Int) (hk : k.toNat < m.panics.length) (x : Int) (g : Pn → Pn) (hg : ∀ p, (g p).fn = p.fn ∧ (g p).va = p.va ∧ (g p).fa = x) :
    fate4 (m.panics.map (fun p => (p.fn, p.va, p.fa))) k.toNat x = (pnSet m k g).panics.map (fun p => (p.fn, p.va, p.fa)) := by
  rw [fate_set _ _ _ hk]
  unfold pnSet
  simp only
  rw [List.map_set, List.map_set]
  congr 1
  obtain ⟨h1, h2, h3⟩ := hg (pnAt m k)
  show _ = ((g (pnAt m k)).fn, (g (pnAt m k)).va, (g (pnAt m k)).fa)
  rw [h1, h2, h3]; rfl
theorem set_pn {β : Type} (m : Ma) (k : Int) (g : Pn → Pn) (f : Pn → β) (y : β) (h : f (g (pnAt m k)) = y) : (pnSet m k g).panics.map f = (m.panics.map f).set k.toNat y := by
  unfold pnSet
  simp only
  rw [List.map_set, h]
theorem onL_ct : ∀ (st : List Fr) (b : Bool), (∀ f g r, st = f :: g :: r → True) → (∀ f, st.head? = some f → f.en ≠ 2) → onL b st = onL false st
  | [], _, _, _ => rfl
  | f :: st, b, _, h => by
    have := h f rfl
    rw [onL, onL, if_neg (fun q => this q.1), if_neg (fun q => this q.1)]
theorem Nested.tail : ∀ {f : Fr} {st : List Fr}, Nested (f :: st) → Nested st
  | _, [], _ => trivial
  | _, _ :: _, h => h.2
/-- Another call ahead. -/
theorem Nested.head {f f' : Fr} {st : List Fr} (h : Nested (f :: st)) (e : f'.df = f.df) : Nested (f' :: st) := by
  cases st with
  | nil => trivial
  | cons g r => exact ⟨fun q => h.1 (e ▸ q), h.2⟩
theorem P1.set {L : List (List St)} {fuel : Nat} {m : Ma} {f f' : Fr} {st : List Fr} (h : P1 L fuel m (f :: st)) (hf : FrOk L m.panics.length m.calls.length f') (g1 : f'.id = f.id) (g2 : f'.fn = f.fn) (g3 : f'.df = f.df) (ho : ∀ g ∈ st, Over f' g) : P1 L fuel m (f' :: st) := by
  refine ⟨h.ma, ?_, h.nest.head g3, h.dep, ?_, h.cs, h.rs, h.ps, List.pairwise_cons.2 ⟨ho, (List.pairwise_cons.1 h.over).2⟩⟩
  · intro g hg
    rcases List.mem_cons.1 hg with rfl | hg
    · exact hf
    · exact h.fr g (by simp [hg])
  · obtain ⟨⟨c, q1, q2, q3, q4⟩, q5, q6⟩ := h.links
    exact ⟨⟨c, by rw [g1]; exact q1, q2, by rw [g2]; exact q3, by rw [g3]; exact q4⟩, by rw [g1]; exact q5, q6⟩
/-- The parent's registers turn. -/
theorem P1.parent {L : List (List St)} {fuel : Nat} {m : Ma} {f p p' : Fr} {st : List Fr} (h : P1 L fuel m (f :: p :: st)) (hf : FrOk L m.panics.length m.calls.length p') (g1 : p'.id = p.id) (g2 : p'.fn = p.fn) (g3 : p'.df = p.df) (g4 : p'.en = p.en) (g5 : p'.pa = p.pa) : P1 L fuel m (f :: p' :: st) := by
  refine ⟨h.ma, ?_, ?_, h.dep, ?_, h.cs, h.rs, h.ps, ?_⟩
  · intro g hg
    rcases List.mem_cons.1 hg with rfl | hg
    · exact h.fr g (by simp)
    · rcases List.mem_cons.1 hg with rfl | hg
      · exact hf
      · exact h.fr g (by simp [hg])
  · exact ⟨fun q => by rw [g4]; exact h.nest.1 q, h.nest.2.head g3⟩
  · obtain ⟨⟨c, q1, q2, q3, q4⟩, q5, ⟨c', r1, r2, r3, r4⟩, r5, r6⟩ := h.links
    refine ⟨⟨c, q1, ?_, q3, q4⟩, ?_, ⟨c', ?_, r2, ?_, ?_⟩, ?_, r6⟩
    · rw [q2]; show (p.id : Int) = (p'.id : Int); rw [g1]
    · show (p'.id : Int) < _; rw [g1]; exact q5
    · rw [g1]; exact r1
    · rw [g2]; exact r3
    · rw [g3]; exact r4
    · rw [g1]; exact r5
  · have ho := h.over
    rw [List.pairwise_cons, List.pairwise_cons] at ho ⊢
    refine ⟨fun g hg => ?_, fun g hg => ?_, ho.2.2⟩
    · rcases List.mem_cons.1 hg with rfl | hg
      · intro e1 e2; rw [g5]; exact ho.1 p (by simp) e1 (by rw [← g4]; exact e2)
      · exact ho.1 g (by simp [hg])
    · intro e1 e2; rw [g5]; exact ho.2.1 g hg (by rw [← g4]; exact e1) e2
theorem P1.machine {L : List (List St)} {fuel : Nat} {m m' : Ma} {st : List Fr} (h : P1 L fuel m st) (h0 : MaOk fuel m') (h1 : m'.calls = m.calls) (h2 : m'.panics = m.panics) (h3 : m'.recs = m.recs) (h4 : m'.depth = m.depth) : P1 L fuel m' st :=
  ⟨h0, by rw [h1, h2]; exact h.fr, h.nest, by rw [h4]; exact h.dep, h.links.congr h1, ⟨by rw [h1]; exact h.cs.up, by rw [h1]; exact h.cs.en⟩, ⟨by rw [h1, h2, h3]; exact h.rs.ok⟩, ⟨by rw [h2]; exact h.ps.la, by rw [h2]; exact h.ps.fa⟩, h.over⟩
/-- The panics' fates and links turn. -/
theorem P1.pans {L : List (List St)} {fuel : Nat} {m : Ma} {st : List Fr} (h : P1 L fuel m st) (k : Int) (g : Pn → Pn) (hg : ∀ x, (g x).va = x.va) (hla : 0 ≤ k → ∀ x, m.panics[k.toNat]? = some x → (-1 ≤ (g x).la ∧ (g x).la < k) ∧ (0 ≤ (g x).fa ∧ (g x).fa ≤ 4 ∧ (g x).fa ≠ 3)) (hk : 0 ≤ k) (hk2 : k.toNat < m.panics.length) : P1 L fuel (pnSet m k g) st := by
  have hl : (pnSet m k g).panics.length = m.panics.length := by simp [pnSet]
  have hx := hla hk _ (List.getElem?_eq_getElem hk2)
  have he : pnAt m k = m.panics[k.toNat] := pnAt_get (List.getElem?_eq_getElem hk2)
  refine ⟨pnSet_ok h.ma k g hg, by rw [hl]; exact h.fr, h.nest, h.dep, h.links.congr (by rfl), ⟨h.cs.up, h.cs.en⟩, ⟨by rw [hl]; exact h.rs.ok⟩, ⟨fun j p hj => ?_, fun p hp => ?_⟩, h.over⟩
  · unfold pnSet at hj
    simp only at hj
    rw [List.getElem?_set] at hj
    split at hj
    · rename_i e
      injection hj with hj
      subst hj
      rw [he]
      have := hx.1
      omega
    · exact h.ps.la j p hj
  · rcases List.mem_or_eq_of_mem_set hp with h' | h'
    · exact h.ps.fa p h'
    · subst h'; rw [he]; exact hx.2
theorem P1.top {L : List (List St)} {fuel : Nat} {m : Ma} {f : Fr} {st : List Fr} (h : P1 L fuel m (f :: st)) : FrOk L m.panics.length m.calls.length f := h.fr f (by simp)
theorem over_none {f : Fr} {st : List Fr} (h : f.en ≠ 2) : ∀ g ∈ st, Over f g := fun _ _ e => absurd e h
theorem parentOf {par' : Option Fr} {st : List Fr} (h1 : par'.isSome = st.head?.isSome) (h2 : ∀ p, par' = some p → ∃ x p0, st.head? = some p0 ∧ p = { p0 with regs := x }) :
    (par' = none ∧ st = []) ∨ ∃ p r x, st = p :: r ∧ par' = some { p with regs := x } := by
  cases par' with
  | none =>
    cases st with
    | nil => exact .inl ⟨rfl, rfl⟩
    | cons p r => simp at h1
  | some q =>
    obtain ⟨x, p0, e1, e2⟩ := h2 q rfl
    cases st with
    | nil => simp at e1
    | cons p r =>
      injection e1 with e1
      subst e1
      exact .inr ⟨p, r, x, rfl, by rw [e2]⟩
theorem onL_head {f f' : Fr} {st : List Fr} (h1 : f'.df = f.df) (h2 : f'.ct = f.ct) (h3 : f.en ≠ 2) (h4 : f'.en ≠ 2) (b : Bool) : onL b (f' :: st) = onL b (f :: st) := by
  rw [onL, onL, if_neg (fun q => h4 q.1), if_neg (fun q => h3 q.1), h1, h2]
theorem onL_regs {p : Fr} {x : List Int} {st : List Fr} (b : Bool) : onL b ({ p with regs := x } :: st) = onL b (p :: st) := rfl
theorem fnOf_of {m : Ma} {k : Nat} {c : Ci} (h : m.calls[k]? = some c) : fnOf m k = c.fn := by unfold fnOf; rw [Int.toNat_natCast, List.getD_eq_getElem?_getD, h]; rfl
theorem contains_snoc (l : List Int) (a b : Int) : (l ++ [a]).contains b = (l.contains b || b == a) := by
  rw [Bool.eq_iff_iff, Bool.or_eq_true, List.contains_iff_mem, List.contains_iff_mem, List.mem_append, List.mem_singleton, beq_iff_eq]
/-- Calls that have not ended have each another number. -/
theorem Links.lt {m : Ma} : ∀ {st : List Fr}, Links m st → ∀ g ∈ st, (g.id : Int) ≤ headId st
  | [], _, g, hg => by cases hg
  | f :: st, h, g, hg => by
    rcases List.mem_cons.1 hg with rfl | hg
    · exact Int.le_refl _
    · have := h.2.2.lt g hg
      have := h.2.1
      show (g.id : Int) ≤ (f.id : Int)
      omega
theorem agN_snoc (l : List Pn) (x : Pn) : agN (l ++ [x]) = agN l + (if x.ag then 1 else 0) := by
  unfold agN
  rw [List.filter_append, List.length_append]
  cases h : x.ag <;> simp [List.filter, h]
theorem onL_len : ∀ (st : List Fr) (b : Bool), (onL b st).length = st.length := by
  intro st
  induction st with
  | nil => intro b; rfl
  | cons g st ih => intro b; rw [onL, List.length_cons, List.length_cons, ih]
theorem along_step {L : List (List St)} (hL : ProgOk L) {fuel : Nat} (m : Ma) (f : Fr) (st : List Fr) (s : St) (hp : P L fuel m (f :: st)) (he : f.en = 1) (hs : s ∈ bodyOf L f.fn) :
    P L fuel (stepM m f st.head? s).1 ((stepM m f st.head? s).2.1 :: putHead (stepM m f st.head? s).2.2.1 st) := by
  obtain ⟨p1, p2⟩ := hp
  obtain ⟨k1, k2, k3, k4, k5, k6⟩ := step_ok (par := st.head?) (hL _ _ hs) p1.ma p1.top (fun p hp => p1.fr p (by
    cases st with
    | nil => simp at hp
    | cons q r => injection hp with hp; subst hp; simp))
  obtain ⟨_, _, _, q4, q5⟩ := stepM_par m f st.head? s
  have sh := shape m f st.head? s he
  revert sh k1 k2 k3 k4 k5 k6 q4 q5
  obtain ⟨r, hr⟩ : ∃ r, r = stepM m f st.head? s := ⟨_, rfl⟩
  rw [← hr]
  obtain ⟨m', f', par', b⟩ := r
  simp only
  intro k1 k2 k3 k4 k5 k6 q4 q5 sh
  have ne : f.en ≠ 2 := by omega
  have hct : ∀ g ∈ putHead par' st, ∃ g0 ∈ st, g0.ct = g.ct ∧ g0.id = g.id := by
    rcases parentOf q4 q5 with ⟨rfl, rfl⟩ | ⟨p, r, x, rfl, rfl⟩
    · intro g hg; simp [putHead] at hg
    · intro g hg
      rcases List.mem_cons.1 (show g ∈ { p with regs := x } :: r from hg) with rfl | hg
      · exact ⟨p, by simp, rfl, rfl⟩
      · exact ⟨g, by simp [hg], rfl, rfl⟩
  have honS : ∀ b, onL b (putHead par' st) = onL b st := by
    rcases parentOf q4 q5 with ⟨rfl, rfl⟩ | ⟨p, r, x, rfl, rfl⟩
    · intro b; rfl
    · intro b; rfl
  -- the parent first, then the call itself
  have par1 : ∀ (m' : Ma) (f' : Fr), P1 L fuel m' (f' :: st) → (∀ p, par' = some p → FrOk L m'.panics.length m'.calls.length p) → P1 L fuel m' (f' :: putHead par' st) := by
    intro m' f' h hp
    rcases parentOf q4 q5 with ⟨rfl, rfl⟩ | ⟨p, r, x, rfl, rfl⟩
    · exact h
    · exact h.parent (hp _ rfl) rfl rfl rfl rfl rfl
  cases sh with
  | still _ _ _ h1 h2 h3 h4 h5 h6 g1 g2 g3 g4 g5 =>
    refine ⟨par1 _ _ (((p1.machine k1 h3 h4 h5 h6)).set k2 g1 g2 g3 (over_none g5)) k3, ?_⟩
    have e : onL false (f' :: putHead par' st) = onL false (f :: st) := by
      rw [onL, onL, if_neg (fun q => g5 q.1), if_neg (fun q => ne q.1), g3, g4, honS]
    rw [e]
    refine p2.congr h1 h2 h3 h4 h5 (by show (f'.id : Int) = f.id; rw [g1]) (fun g hg => ?_)
    rcases List.mem_cons.1 hg with rfl | hg
    · exact ⟨f, by simp, g4.symm, g1.symm⟩
    · obtain ⟨g0, h0, e1, e2⟩ := hct g hg
      exact ⟨g0, by simp [h0], e1, e2⟩
  | told k x v hk _ g1 g2 g3 g4 g5 =>
    refine ⟨par1 _ _ (((p1.machine k1 rfl rfl rfl rfl)).set k2 g1 g2 g3 (over_none g5)) k3, ?_⟩
    have e : onL false (f' :: putHead st.head? st) = onL false (f :: st) := by
      rw [onL, onL, if_neg (fun q => g5 q.1), if_neg (fun q => ne q.1), g3, g4, honS]
    rw [e]
    refine (p2.told hk (o := f.id) rfl).congr rfl rfl rfl rfl rfl (by show (f'.id : Int) = f.id; rw [g1]) (fun g hg => ?_)
    rcases List.mem_cons.1 hg with rfl | hg
    · exact ⟨f, by simp, g4.symm, g1.symm⟩
    · obtain ⟨g0, h0, e1, e2⟩ := hct g hg
      exact ⟨g0, by simp [h0], e1, e2⟩
  | panic v =>
    rw [putHead_self]
    obtain ⟨x, ex⟩ : ∃ x : Pn, x = ⟨f.id, f.fn, v, m.depth, 0, -1, -1, f.ct, []⟩ := ⟨_, rfl⟩
    rw [← ex] at k1 k2 k3 ⊢
    constructor
    · have hl : (m.panics ++ [x]).length = m.panics.length + 1 := by simp
      refine ⟨k1, ?_, p1.nest.head rfl, p1.dep, ?_, ⟨p1.cs.up, p1.cs.en⟩, ⟨fun r hr => ?_⟩, ⟨fun j p hj => ?_, fun p hp => ?_⟩, ?_⟩
      · intro g hg
        rcases List.mem_cons.1 hg with rfl | hg
        · exact k2
        · exact (p1.fr g (by simp [hg])).mono (by show _ ≤ (m.panics ++ [x]).length; omega) (Nat.le_refl _)
      · obtain ⟨a, b, c⟩ := p1.links
        exact ⟨a, b, c.congr (by rfl)⟩
      · obtain ⟨a, b, c, d, e⟩ := p1.rs.ok r hr
        exact ⟨a, b, c, d, by show _ < (m.panics ++ [x]).length; omega⟩
      · have hj' : (m.panics ++ [x])[j]? = some p := hj
        by_cases hlt : j < m.panics.length
        · rw [List.getElem?_append_left hlt] at hj'; exact p1.ps.la j p hj'
        · rw [List.getElem?_append_right (by omega)] at hj'
          have : p = x := by
            have := List.mem_of_getElem? hj'
            simpa using this
          subst this
          rw [ex]; exact ⟨by show (-1 : Int) ≤ -1; omega, by show (-1 : Int) < j; omega⟩
      · rcases List.mem_append.1 (show p ∈ m.panics ++ [x] from hp) with hp | hp
        · exact p1.ps.fa p hp
        · rw [List.mem_singleton.1 hp, ex]; exact ⟨by show (0 : Int) ≤ 0; omega, by show (0 : Int) ≤ 4; omega, by show (0 : Int) ≠ 3; omega⟩
      · rw [List.pairwise_cons]
        refine ⟨fun g hg _ e2 => ?_, (List.pairwise_cons.1 p1.over).2⟩
        have := (p1.fr g (by simp [hg])).pa e2
        show g.pa < ((m.panics.length : Nat) : Int)
        omega
    · have xct : x.ag = f.ct := by rw [ex]
      refine ⟨?_, ?_, ?_, ?_, fun g hg => ?_⟩
      · show read3 (m.trace ++ [_]) = _
        rw [read3_snoc, p2.r3, Option.bind_some, step3_plain (.inr (.inr (.inl rfl)))]; rfl
      · show read4 (m.trace ++ [_]) = _
        have hon : onL false (f :: st) = (f.df, -1) :: onL f.ct st := by rw [onL, if_neg (fun h => ne h.1)]
        have hon2 : onL false ({ f with en := 2, pa := (m.panics.length : Nat) } :: st) = (f.df, ((m.panics.length : Nat) : Int)) :: onL f.ct st := by rw [onL, if_pos ⟨rfl, rfl⟩]
        have e2 : (((onL f.ct st).length + 1 : Nat) : Int) = (m.depth : Int) := by rw [onL_len st f.ct, p1.dep]; rfl
        rw [read4_snoc, p2.r4, Option.bind_some, hon, hon2]
        unfold step4
        rw [if_neg (show ¬ ((5 : Int) = 1 ∨ (5 : Int) = 3) by decide), if_pos rfl]
        show some _ = some _
        congr 1
        unfold mk4
        simp only [tellM, List.map_append, List.map_cons, List.map_nil, ex, List.length_map, List.length_cons, e2]
        rfl
      · show (m.owners ++ [_]).length = (m.trace ++ [_]).length
        rw [List.length_append, List.length_append, p2.len]; rfl
      · show read5 (m.trace ++ [_]) (m.owners ++ [_]) = (m.recs.map (·.ca), agN (m.panics ++ [x]))
        rw [read5_snoc p2.len, p2.r5, agN_snoc, xct]
        unfold step5
        rw [if_neg (show ¬ (5 : Int) = 6 by decide)]
        have hc := p2.ct f (by simp)
        cases hb : f.ct with
        | true =>
          rw [hb] at hc
          rw [if_pos ⟨rfl, hc.symm⟩]; rfl
        | false =>
          rw [hb] at hc
          rw [if_neg (fun q => by rw [q.2] at hc; cases hc)]
          show (_, _) = (_, _)
          simp
      · rcases List.mem_cons.1 hg with rfl | hg
        · exact p2.ct f (by simp)
        · exact p2.ct g (by simp [hg])
  | recover p hp hd hc hpe rs =>
    rw [putHead_self]
    cases st with
    | nil => simp at hp
    | cons q st =>
      injection hp with hp
      subst hp
      have hq := p1.fr q (by simp)
      obtain ⟨a1, a2⟩ := hq.pa hpe
      obtain ⟨m1, em1⟩ : ∃ m1, m1 = pnSet m q.pa (fun x => { x with fa := 1 }) := ⟨_, rfl⟩
      have hl : m1.panics.length = m.panics.length := by rw [em1]; simp [pnSet]
      have hP : P1 L fuel m1 (f :: q :: st) := by
        rw [em1]
        refine p1.pans q.pa (fun x => { x with fa := 1 }) (fun _ => rfl) (fun _ x hx => ⟨?_, by show (0 : Int) ≤ 1; omega, by show (1 : Int) ≤ 4; omega, by show (1 : Int) ≠ 3; omega⟩) a1 a2
        have := p1.ps.la _ x hx
        exact ⟨this.1, by show x.la < q.pa; omega⟩
      obtain ⟨⟨c, l1, l2, l3, l4⟩, l5, l6⟩ := p1.links
      have l2' : c.up = (q.id : Int) := l2
      rw [← em1] at k1 k2 k3 ⊢
      have calls1 : m1.calls = m.calls := by rw [em1]; rfl
      have recs1 : m1.recs = m.recs := by rw [em1]; rfl
      constructor
      · have hP2 : P1 L fuel (tellM { m1 with recs := m.recs ++ [⟨(f.id : Int), (q.id : Int), q.pa⟩] } 6 f.fn (pnAt m q.pa).va f.id) (f :: q :: st) := by
          refine ⟨k1, hP.fr, hP.nest, hP.dep, hP.links.congr (by rfl), ⟨hP.cs.up, hP.cs.en⟩, ⟨fun r hr => ?_⟩, ⟨hP.ps.la, hP.ps.fa⟩, hP.over⟩
          rcases List.mem_append.1 (show r ∈ m.recs ++ [(⟨(f.id : Int), (q.id : Int), q.pa⟩ : Rc)] from hr) with hr | hr
          · exact hP.rs.ok r (by rw [recs1]; exact hr)
          · rw [List.mem_singleton.1 hr]
            refine ⟨by show (0 : Int) ≤ (f.id : Int); omega, ⟨c, ?_, l2'⟩, by show (0 : Int) ≤ (q.id : Int); omega, a1, ?_⟩
            · show m1.calls[((f.id : Int)).toNat]? = some c
              rw [Int.toNat_natCast, calls1]; exact l1
            · show q.pa.toNat < m1.panics.length
              rw [hl]; exact a2
        exact hP2.set k2 rfl rfl rfl (over_none (by show f.en ≠ 2; exact ne))
      · have hon : onL false (f :: q :: st) = (f.df, -1) :: (q.df, q.pa) :: onL q.ct st := by
          rw [onL, onL, if_neg (fun h => ne h.1), if_pos ⟨hpe, hc⟩]
        have hon2 : onL false ({ f with ct := true, regs := rs } :: q :: st) = (f.df, -1) :: (q.df, -1) :: onL q.ct st := by
          rw [onL, onL, if_neg (fun h => ne h.1), if_neg (fun h => by cases h.2)]
        refine ⟨?_, ?_, ?_, ?_, fun g hg => ?_⟩
        · show read3 (m1.trace ++ [_]) = _
          rw [read3_snoc, em1]
          show (read3 m.trace).bind _ = _
          rw [p2.r3, Option.bind_some, step3_plain (.inr (.inr (.inr rfl)))]; rfl
        · show read4 (m1.trace ++ [_]) = _
          rw [read4_snoc, em1]
          show (read4 m.trace).bind _ = _
          rw [p2.r4, Option.bind_some, hon, hon2]
          unfold step4
          rw [if_neg (show ¬ ((6 : Int) = 1 ∨ (6 : Int) = 3) by decide), if_neg (show ¬ (6 : Int) = 5 by decide), if_pos rfl]
          show (if okN (mk4 m _) q.pa = true then _ else none) = _
          rw [if_pos (by unfold okN mk4; simp only [List.length_map, Bool.and_eq_true, decide_eq_true_eq]; exact ⟨a1, a2⟩)]
          show some _ = some _
          congr 1
          unfold mk4
          simp only
          have ef : fate4 (m.panics.map (fun p => (p.fn, p.va, p.fa))) q.pa.toNat 1 = m1.panics.map (fun p => (p.fn, p.va, p.fa)) := by
            rw [em1]; exact fate_pn m q.pa a2 1 _ fun _ => ⟨rfl, rfl, rfl⟩
          rw [ef]
          have e1 : m1.panics.map (·.de) = m.panics.map (·.de) := by rw [em1]; exact map_pn m q.pa _ _ fun _ => rfl
          have e2 : m1.panics.map (·.un) = m.panics.map (·.un) := by rw [em1]; exact map_pn m q.pa _ _ fun _ => rfl
          have e3 : m1.panics.map (·.by_) = m.panics.map (·.by_) := by rw [em1]; exact map_pn m q.pa _ _ fun _ => rfl
          have e4 : m1.panics.map (·.la) = m.panics.map (·.la) := by rw [em1]; exact map_pn m q.pa _ _ fun _ => rfl
          have e5 : fnOf m (f.id : Nat) = f.fn := (fnOf_of l1).trans l3
          rw [← e1, ← e2, ← e3, ← e4, ← e5, em1]
          show R4.mk _ _ _ _ _ _ _ = R4.mk _ _ _ _ _ _ _
          simp only [tellM, List.map_append, List.map_cons, List.map_nil]
          rfl
        · show (m1.owners ++ [_]).length = (m1.trace ++ [_]).length
          rw [List.length_append, List.length_append, em1]
          show m.owners.length + 1 = m.trace.length + 1
          rw [p2.len]
        · show read5 (m1.trace ++ [_]) (m1.owners ++ [_]) = (List.map Rc.ca (m.recs ++ [_]), agN m1.panics)
          rw [em1]
          show read5 (m.trace ++ [_]) (m.owners ++ [_]) = _
          rw [read5_snoc p2.len, p2.r5, agN_pn m q.pa (fun x => { x with fa := 1 }) fun _ => rfl]
          unfold step5
          rw [if_pos rfl, List.map_append]; rfl
        · have hlt := p1.links.2.2.lt
          show g.ct = (List.map Rc.ca (m.recs ++ [_])).contains (g.id : Int)
          rw [List.map_append, List.map_cons, List.map_nil, contains_snoc]
          rcases List.mem_cons.1 hg with rfl | hg
          · show true = _
            simp
          · have h1 := p2.ct g (by simp [hg])
            have h2 := hlt g hg
            have h3 := p1.links.2.1
            rw [← h1, show ((g.id : Int) == (f.id : Int)) = false from by simp; omega, Bool.or_false]
theorem along_start {L : List (List St)} (hL : ProgOk L) {fuel : Nat} (m : Ma) (st : List Fr) (fn arg : Int) (df : Bool) (hp : P L fuel m st) (h0 : FnOk L fn ∧ n16 arg) (h1 : df = false → ∀ f, st.head? = some f → f.en = 1) (h2 : df = true → st ≠ []) :
    P L fuel (startM m fn arg st.head? df).1 ((startM m fn arg st.head? df).2 :: st) := by
  obtain ⟨p1, p2⟩ := hp
  have hup : upOf st.head? = headId st := by cases st <;> rfl
  obtain ⟨c, ec⟩ : ∃ c : Ci, c = ⟨fn, headId st, df, 4, 0, arg⟩ := ⟨_, rfl⟩
  have e1 : (startM m fn arg st.head? df).1 = { tellM { m with calls := m.calls ++ [c] } (if df then 3 else 1) fn arg m.calls.length with depth := m.depth + 1, deepest := max m.deepest (m.depth + 1) } := by
    unfold startM; rw [hup, ec]
  have e2 : (startM m fn arg st.head? df).2 = ⟨m.calls.length, fn, [arg, 0, 0, 0], [], df, false, false, 1, -1⟩ := rfl
  rw [e1, e2]
  have hl : (m.calls ++ [c]).length = m.calls.length + 1 := by simp
  have links : ∀ {st : List Fr} {m' : Ma}, m'.calls = m.calls ++ [c] → Links m st → Links m' st := by
    intro st
    induction st with
    | nil => intro _ _ _; trivial
    | cons f st ih =>
      rintro m' hc ⟨⟨d, q1, q2⟩, q3, q4⟩
      refine ⟨⟨d, ?_, q2⟩, q3, ih hc q4⟩
      rw [hc, List.getElem?_append_left (List.getElem?_eq_some_iff.1 q1).1]; exact q1
  have hlt : headId st < (m.calls.length : Nat) := by
    cases st with
    | nil => show (-1 : Int) < _; omega
    | cons f r =>
      have := (p1.fr f (by simp)).id
      show (f.id : Int) < _
      omega
  constructor
  · refine ⟨⟨p1.ma.made, p1.ma.shared, p1.ma.pans⟩, ?_, ?_, ?_, ⟨⟨c, ?_, ?_, ?_, ?_⟩, hlt, links rfl p1.links⟩, ⟨fun k d hk => ?_, fun d hd => ?_⟩, ⟨fun r hr => ?_⟩, ⟨p1.ps.la, p1.ps.fa⟩, ?_⟩
    · intro g hg
      rcases List.mem_cons.1 hg with rfl | hg
      · refine ⟨rfl, fun x hx => ?_, h0.1, (fun x hx => by cases hx), .inl rfl, (fun e => absurd e (by show ¬ (1 : Int) = 2; decide)), (fun e => by cases e), ?_⟩
        · simp only [List.mem_cons, List.not_mem_nil, or_false] at hx
          rcases hx with rfl | rfl | rfl | rfl
          · exact h0.2
          · exact n16_zero
          · exact n16_zero
          · exact n16_zero
        · show m.calls.length < (m.calls ++ [c]).length; omega
      · exact (p1.fr g hg).mono (Nat.le_refl _) (by show _ ≤ (m.calls ++ [c]).length; omega)
    · cases st with
      | nil => trivial
      | cons g r => exact ⟨fun e => h1 e g rfl, p1.nest⟩
    · show m.depth + 1 = st.length + 1
      rw [p1.dep]
    · show (m.calls ++ [c])[m.calls.length]? = some c
      rw [List.getElem?_append_right (Nat.le_refl _), Nat.sub_self]; rfl
    · rw [ec]
    · rw [ec]
    · rw [ec]
    · have hk' : (m.calls ++ [c])[k]? = some d := hk
      by_cases hl : k < m.calls.length
      · rw [List.getElem?_append_left hl] at hk'; exact p1.cs.up k d hk'
      · rw [List.getElem?_append_right (by omega)] at hk'
        have : d = c := by simpa using List.mem_of_getElem? hk'
        subst this
        rw [ec]
        show -1 ≤ headId st ∧ headId st < (k : Int)
        have : -1 ≤ headId st := by
          cases st with
          | nil => exact Int.le_refl _
          | cons f r => show (-1 : Int) ≤ (f.id : Int); omega
        omega
    · rcases List.mem_append.1 (show d ∈ m.calls ++ [c] from hd) with hd | hd
      · exact p1.cs.en d hd
      · rw [List.mem_singleton.1 hd, ec]; exact ⟨by show (1 : Int) ≤ 4; omega, by show (4 : Int) ≤ 4; omega⟩
    · obtain ⟨a, ⟨d, b1, b2⟩, b3⟩ := p1.rs.ok r hr
      refine ⟨a, ⟨d, ?_, b2⟩, b3⟩
      show (m.calls ++ [c])[r.ca.toNat]? = some d
      rw [List.getElem?_append_left (List.getElem?_eq_some_iff.1 b1).1]; exact b1
    · exact List.pairwise_cons.2 ⟨over_none (by show (1 : Int) ≠ 2; omega), p1.over⟩
  · obtain ⟨k, hk⟩ : ∃ k : Int, k = if df then 3 else 1 := ⟨_, rfl⟩
    have hk13 : k = 1 ∨ k = 3 := by cases df <;> simp [hk]
    have hkd : (k == 3) = df := by cases df <;> simp [hk]
    rw [← hk]
    refine ⟨?_, ?_, ?_, ?_, fun g hg => ?_⟩
    · show read3 (m.trace ++ [_]) = _
      rw [read3_snoc, p2.r3, Option.bind_some]
      unfold step3 open3 shut3
      rw [if_pos hk13, if_pos (by show end3 k = 0; unfold end3; rw [if_neg (by omega), if_neg (by omega), if_neg (by omega)])]
      show some _ = some _
      congr 1
      show R3.mk _ _ _ = R3.mk ((m.calls ++ [c]).map c5) (m.owners ++ [_]) _
      rw [List.map_append, List.length_map, ec, hkd]; rfl
    · show read4 (m.trace ++ [_]) = _
      rw [read4_snoc, p2.r4, Option.bind_some]
      unfold step4
      rw [if_pos hk13]
      show some _ = some _
      congr 1
      have efn : ∀ r ∈ m.recs, fnOf { m with calls := m.calls ++ [c] } r.ca = fnOf m r.ca := fun r hr => by
        obtain ⟨a, ⟨d, b1, _⟩, _⟩ := p1.rs.ok r hr
        unfold fnOf
        simp only
        rw [List.getD_eq_getElem?_getD, List.getElem?_append_left (List.getElem?_eq_some_iff.1 b1).1, ← List.getD_eq_getElem?_getD]
      unfold mk4
      simp only [tellM]
      rw [hkd]
      show R4.mk _ _ _ _ _ _ _ = R4.mk _ _ _ _ _ _ _
      congr 1
      exact List.map_congr_left fun r hr => by rw [← efn r hr]; rfl
    · show (m.owners ++ [_]).length = (m.trace ++ [_]).length
      rw [List.length_append, List.length_append, p2.len]; rfl
    · show read5 (m.trace ++ [_]) (m.owners ++ [_]) = _
      rw [read5_snoc p2.len, p2.r5, step5_plain (by show k ≠ 5 ∧ k ≠ 6; omega)]; rfl
    · rcases List.mem_cons.1 hg with rfl | hg
      · show false = (m.recs.map (·.ca)).contains ((m.calls.length : Nat) : Int)
        symm
        rw [Bool.eq_false_iff]
        intro h
        rw [List.contains_iff_mem] at h
        obtain ⟨r, hr, e⟩ := List.mem_map.1 h
        obtain ⟨a, ⟨d, b1, _⟩, _⟩ := p1.rs.ok r hr
        have := (List.getElem?_eq_some_iff.1 b1).1
        omega
      · exact p2.ct g hg
end Go.Proofs.Ytobikkdnalnllaa
namespace Go.Proofs.Ytobikkdnalnllaa
open Go.RowKit SL
set_option linter.unusedVariables false
set_option linter.unusedSimpArgs false
/-- The machine behind a call's end. -/
def doneM (m : Ma) (d : Fr) : Ma := { finishM m d with depth := (finishM m d).depth - 1 }
theorem end3_kind {en : Int} (h : en = 1 ∨ en = 2 ∨ en = 3) : end3 (endKind en) = en ∧ (endKind en = 7 ∨ endKind en = 8 ∨ endKind en = 9) := by
  rcases h with rfl | rfl | rfl <;> exact ⟨rfl, by decide⟩
theorem done_facts {m : Ma} {d : Fr} : (doneM m d).trace = m.trace ++ [⟨endKind d.en, d.fn, endVal m d⟩] ∧ (doneM m d).owners = m.owners ++ [(d.id : Int)] ∧ (doneM m d).recs = m.recs ∧ (doneM m d).made = m.made ∧ (doneM m d).shared = m.shared ∧ (doneM m d).depth = m.depth - 1 ∧
    (doneM m d).calls = m.calls.set d.id { (m.calls.getD d.id ⟨0, 0, false, 0, 0, 0⟩) with en := d.en, va := endVal m d } ∧
    (doneM m d).panics = (if d.en = 2 then pnSet m d.pa (fun x => { x with un := x.un ++ [d.fn] }) else m).panics := by
  unfold doneM finishM
  simp only
  split <;> exact ⟨rfl, rfl, rfl, rfl, rfl, rfl, rfl, rfl⟩
theorem P1.done {L : List (List St)} {fuel : Nat} {m : Ma} {d : Fr} {st : List Fr} (h : P1 L fuel m (d :: st)) : P1 L fuel (doneM m d) st ∧ (doneM m d).panics.length = m.panics.length ∧ (doneM m d).calls.length = m.calls.length ∧ (∀ k, (pnAt (doneM m d) k).va = (pnAt m k).va) := by
  obtain ⟨e1, e2, e3, e4, e5, e6, e7, e8⟩ := done_facts (m := m) (d := d)
  obtain ⟨⟨c, l1, l2, l3, l4⟩, l5, l6⟩ := h.links
  have ec : m.calls.getD d.id ⟨0, 0, false, 0, 0, 0⟩ = c := by rw [List.getD_eq_getElem?_getD, l1]; rfl
  rw [ec] at e7
  have hd := h.top
  -- the panics first
  obtain ⟨m1, em1⟩ : ∃ m1, m1 = (if d.en = 2 then pnSet m d.pa (fun x => { x with un := x.un ++ [d.fn] }) else m) := ⟨_, rfl⟩
  rw [← em1] at e8
  have h1 : P1 L fuel m1 (d :: st) ∧ m1.panics.length = m.panics.length ∧ m1.calls = m.calls ∧ m1.recs = m.recs ∧ m1.depth = m.depth ∧ m1.made = m.made ∧ m1.shared = m.shared ∧ (∀ k, (pnAt m1 k).va = (pnAt m k).va) := by
    rw [em1]
    split
    · rename_i e
      obtain ⟨a1, a2⟩ := hd.pa e
      refine ⟨h.pans d.pa (fun x => { x with un := x.un ++ [d.fn] }) (fun _ => rfl) (fun _ x hx => ?_) a1 a2, by simp [pnSet], rfl, rfl, rfl, rfl, rfl, fun k => ?_⟩
      · have := h.ps.la _ x hx
        exact ⟨⟨this.1, by show x.la < d.pa; omega⟩, h.ps.fa x (List.mem_of_getElem? hx)⟩
      · have hm := map_pn m d.pa (fun x => { x with un := x.un ++ [d.fn] }) (·.va) fun _ => rfl
        have e : ∀ m : Ma, (pnAt m k).va = (m.panics.map (·.va)).getD k.toNat 0 := by
          intro m; unfold pnAt; rw [List.getD_eq_getElem?_getD, List.getD_eq_getElem?_getD, List.getElem?_map]; cases m.panics[k.toNat]? <;> rfl
        rw [e, e, hm]
    · exact ⟨h, rfl, rfl, rfl, rfl, rfl, rfl, fun _ => rfl⟩
  obtain ⟨q1, q2, q3, q4, q5, q6, q7, q8⟩ := h1
  have hlc : (doneM m d).calls.length = m.calls.length := by rw [e7, List.length_set]
  have hlp : (doneM m d).panics.length = m.panics.length := by rw [e8, q2]
  have hget : ∀ (k : Nat) x, (doneM m d).calls[k]? = some x → ∃ y, m.calls[k]? = some y ∧ x.up = y.up ∧ x.fn = y.fn ∧ x.df = y.df := by
    intro k x hx
    rw [e7, List.getElem?_set] at hx
    split at hx
    · rename_i e
      subst e
      split at hx
      · injection hx with hx; subst hx; exact ⟨c, l1, rfl, rfl, rfl⟩
      · cases hx
    · exact ⟨x, hx, rfl, rfl, rfl⟩
  have hget' : ∀ (k : Nat) y, m.calls[k]? = some y → ∃ x, (doneM m d).calls[k]? = some x ∧ x.up = y.up ∧ x.fn = y.fn ∧ x.df = y.df := by
    intro k y hy
    have hk := (List.getElem?_eq_some_iff.1 hy).1
    obtain ⟨x, hx⟩ : ∃ x, (doneM m d).calls[k]? = some x := ⟨_, List.getElem?_eq_getElem (by rw [hlc]; exact hk)⟩
    obtain ⟨z, hz, f1, f2, f3⟩ := hget k x hx
    rw [hy] at hz; injection hz with hz; subst hz
    exact ⟨x, hx, f1, f2, f3⟩
  have links : ∀ {st : List Fr}, Links m st → Links (doneM m d) st := by
    intro st
    induction st with
    | nil => intro _; trivial
    | cons f st ih =>
      rintro ⟨⟨y, a1, a2, a3, a4⟩, a5, a6⟩
      obtain ⟨x, hx, f1, f2, f3⟩ := hget' _ y a1
      exact ⟨⟨x, hx, f1.trans a2, f2.trans a3, f3.trans a4⟩, a5, ih a6⟩
  refine ⟨⟨?_, ?_, h.nest.tail, ?_, links l6, ⟨fun k x hx => ?_, fun x hx => ?_⟩, ⟨fun r hr => ?_⟩, ⟨by rw [e8]; exact q1.ps.la, by rw [e8]; exact q1.ps.fa⟩, (List.pairwise_cons.1 h.over).2⟩, hlp, hlc, fun k => ?_⟩
  · exact ⟨by rw [e4]; exact h.ma.made, by rw [e5]; exact h.ma.shared, by rw [e8]; exact q1.ma.pans⟩
  · intro g hg
    rw [hlp, hlc]; exact h.fr g (by simp [hg])
  · rw [e6, h.dep]; rfl
  · obtain ⟨y, hy, f1, _⟩ := hget k x hx
    rw [f1]; exact h.cs.up k y hy
  · rw [e7] at hx
    rcases List.mem_or_eq_of_mem_set hx with hx | rfl
    · exact h.cs.en x hx
    · show 1 ≤ d.en ∧ d.en ≤ 4
      rcases hd.en with e | e | e <;> omega
  · rw [e3] at hr
    obtain ⟨a, ⟨y, b1, b2⟩, b3, b4, b5⟩ := h.rs.ok r hr
    obtain ⟨x, hx, f1, _⟩ := hget' _ y b1
    exact ⟨a, ⟨x, hx, f1.trans b2⟩, b3, b4, by rw [hlp]; exact b5⟩
  · rw [← q8 k]; unfold pnAt; rw [e8]
theorem done_r3 {L : List (List St)} {fuel : Nat} {m : Ma} {d : Fr} {st : List Fr} {on : List (Bool × Int)} (h : P1 L fuel m (d :: st)) (h2 : P2 m (d :: st) on) :
    read3 (doneM m d).trace = some ⟨(doneM m d).calls.map c5, (doneM m d).owners, headId st⟩ ∧ (doneM m d).owners.length = (doneM m d).trace.length ∧ read5 (doneM m d).trace (doneM m d).owners = ((doneM m d).recs.map (·.ca), agN (doneM m d).panics) ∧
      (∀ f ∈ st, f.ct = ((doneM m d).recs.map (·.ca)).contains (f.id : Int)) := by
  obtain ⟨e1, e2, e3, e4, e5, e6, e7, e8⟩ := done_facts (m := m) (d := d)
  obtain ⟨⟨c, l1, l2, l3, l4⟩, l5, l6⟩ := h.links
  have ec : m.calls.getD d.id ⟨0, 0, false, 0, 0, 0⟩ = c := by rw [List.getD_eq_getElem?_getD, l1]; rfl
  rw [ec] at e7
  obtain ⟨g1, g2⟩ := end3_kind h.top.en
  refine ⟨?_, by rw [e1, e2, List.length_append, List.length_append, h2.len]; rfl, ?_, fun f hf => by rw [e3]; exact h2.ct f (by simp [hf])⟩
  · rw [e1, e2, e7, read3_snoc, h2.r3, Option.bind_some]
    unfold step3 open3
    rw [if_neg (by show ¬ (endKind d.en = 1 ∨ endKind d.en = 3); omega)]
    unfold shut3
    rw [if_neg (by show ¬ end3 (endKind d.en) = 0; rw [g1]; rcases h.top.en with e | e | e <;> omega)]
    show (if (d.id : Int) < 0 then none else _) = _
    rw [if_neg (by omega)]
    show (match (m.calls.map c5)[(d.id : Int).toNat]? with | none => none | some c => _) = _
    rw [Int.toNat_natCast, List.getElem?_map, l1]
    show some _ = some _
    congr 1
    show R3.mk ((m.calls.map c5).set (d.id : Int).toNat _) _ _ = R3.mk _ _ _
    rw [Int.toNat_natCast, List.map_set, ← l2]
    show R3.mk ((m.calls.map c5).set d.id ⟨c.fn, c.up, c.df, end3 (endKind d.en), endVal m d⟩) _ _ = _
    rw [g1]; rfl
  · rw [e1, e2, e3, read5_snoc h2.len, h2.r5, step5_plain (by show endKind d.en ≠ 5 ∧ endKind d.en ≠ 6; omega), e8]
    split
    · rw [agN_pn m d.pa (fun x => { x with un := x.un ++ [d.fn] }) fun _ => rfl]
    · rfl
theorem step4_7 {r : R4} {e : Ev} (h : e.k = 7) {t : Bool × Int} {rest : List (Bool × Int)} (hc : r.calls = t :: rest) : step4 r e = some { r with calls := rest } := by
  unfold step4
  rw [if_neg (by omega), if_neg (by omega), if_neg (by omega), if_pos h, hc]
theorem step4_8 {r : R4} {e : Ev} (h : e.k = 8) {t : Bool × Int} {rest : List (Bool × Int)} (hc : r.calls = t :: rest) (h1 : okN r t.2 = true) (h2 : ∀ p q, rest = p :: q → (t.1 && decide (0 ≤ p.2)) = true → okN r p.2 = true) : step4 r e = some (unwind4 r e t rest) := by
  unfold step4
  rw [if_neg (by omega), if_neg (by omega), if_neg (by omega), if_neg (by omega), if_pos h, hc]
  simp only
  rw [h1, Bool.true_and, if_pos]
  cases rest with
  | nil => rfl
  | cons p q =>
    have := h2 p q rfl
    cases h3 : (t.1 && decide (0 ≤ p.2)) with
    | true => simp only; rw [this h3, Bool.or_true]
    | false => simp only; rw [← Bool.not_and, h3]; rfl
theorem step4_9 {r : R4} {e : Ev} (h : e.k = 9) {t : Bool × Int} {rest : List (Bool × Int)} (hc : r.calls = t :: rest) (h2 : ∀ p q, rest = p :: q → (t.1 && decide (0 ≤ p.2)) = true → okN r p.2 = true) : step4 r e = some (exit4 r t rest) := by
  unfold step4
  rw [if_neg (by omega), if_neg (by omega), if_neg (by omega), if_neg (by omega), if_neg (by omega), if_pos h, hc]
  simp only
  rw [if_pos]
  cases rest with
  | nil => rfl
  | cons p q =>
    have := h2 p q rfl
    cases h3 : (t.1 && decide (0 ≤ p.2)) with
    | true => simp only; rw [this h3, Bool.or_true]
    | false => simp only; rw [← Bool.not_and, h3]; rfl
theorem okN_mk {m : Ma} {on : List (Bool × Int)} {k : Int} (h1 : 0 ≤ k) (h2 : k.toNat < m.panics.length) : okN (mk4 m on) k = true := by
  unfold okN mk4
  simp only [List.length_map, Bool.and_eq_true, decide_eq_true_eq]
  exact ⟨h1, h2⟩
/-- The names that the calls' ends leave. -/
theorem mk4_calls {m m' : Ma} (hr : RecsOk m) (h1 : m'.panics = m.panics) (h2 : m'.recs = m.recs) (h3 : ∀ (k : Nat) y, m.calls[k]? = some y → ∃ x, m'.calls[k]? = some x ∧ x.fn = y.fn) (on : List (Bool × Int)) : mk4 m' on = mk4 m on := by
  unfold mk4
  rw [h1, h2]
  congr 1
  refine List.map_congr_left fun r hr' => ?_
  obtain ⟨a, ⟨d, b1, _⟩, _⟩ := hr.ok r hr'
  obtain ⟨x, hx, e⟩ := h3 _ d b1
  have q1 : fnOf m' r.ca = x.fn := by unfold fnOf; rw [List.getD_eq_getElem?_getD, hx]; rfl
  have q2 : fnOf m r.ca = d.fn := by unfold fnOf; rw [List.getD_eq_getElem?_getD, b1]; rfl
  rw [q1, q2, e]
theorem done_calls {L : List (List St)} {fuel : Nat} {m : Ma} {d : Fr} {st : List Fr} (h : P1 L fuel m (d :: st)) : ∀ (k : Nat) y, m.calls[k]? = some y → ∃ x, (doneM m d).calls[k]? = some x ∧ x.fn = y.fn := by
  obtain ⟨e1, e2, e3, e4, e5, e6, e7, e8⟩ := done_facts (m := m) (d := d)
  intro k y hy
  rw [e7]
  by_cases e : d.id = k
  · subst e
    refine ⟨_, List.getElem?_set_self (List.getElem?_eq_some_iff.1 hy).1, ?_⟩
    show (m.calls.getD d.id _).fn = _
    rw [List.getD_eq_getElem?_getD, hy]; rfl
  · exact ⟨y, by rw [List.getElem?_set_ne e]; exact hy, rfl⟩
/-- What is told of the panics where one call has unwound. -/
theorem un_pn (m : Ma) (k : Int) (hk : k.toNat < m.panics.length) (fn : Int) : (m.panics.map (·.un)).set k.toNat ((m.panics.map (·.un)).getD k.toNat [] ++ [fn]) = (pnSet m k (fun x => { x with un := x.un ++ [fn] })).panics.map (·.un) := by
  rw [set_pn m k (fun x => { x with un := x.un ++ [fn] }) (·.un) ((pnAt m k).un ++ [fn]) rfl]
  congr 2
  unfold pnAt
  rw [List.getD_eq_getElem?_getD, List.getD_eq_getElem?_getD, List.getElem?_map, List.getElem?_eq_getElem hk]; rfl
/-- The reading behind an unwinding, if a deferred call's panic replaces one. -/
theorem unwind_on {m : Ma} {fn : Int} {d : Fr} {pdf : Bool} {pon : Int} {rest : List (Bool × Int)} {v : Int} (h1 : 0 ≤ d.pa) (h2 : d.pa.toNat < m.panics.length) (h3 : 0 ≤ pon) (h4 : pon.toNat < m.panics.length) (on : List (Bool × Int)) (k : Int) :
    unwind4 (mk4 m on) ⟨k, fn, v⟩ (true, d.pa) ((pdf, pon) :: rest) =
      mk4 (pnSet (pnSet (pnSet m d.pa (fun x => { x with un := x.un ++ [fn] })) pon (fun x => { x with fa := 2, by_ := d.pa })) d.pa (fun x => { x with la := pon })) ((pdf, d.pa) :: rest) := by
  obtain ⟨m1, em1⟩ : ∃ m1, m1 = pnSet m d.pa (fun x => { x with un := x.un ++ [fn] }) := ⟨_, rfl⟩
  obtain ⟨m2, em2⟩ : ∃ m2, m2 = pnSet m1 pon (fun x => { x with fa := 2, by_ := d.pa }) := ⟨_, rfl⟩
  obtain ⟨m3, em3⟩ : ∃ m3, m3 = pnSet m2 d.pa (fun x => { x with la := pon }) := ⟨_, rfl⟩
  rw [← em1, ← em2, ← em3]
  have l1 : m1.panics.length = m.panics.length := by rw [em1]; simp [pnSet]
  have a1 : m3.panics.map (fun p => (p.fn, p.va, p.fa)) = fate4 (m.panics.map (fun p => (p.fn, p.va, p.fa))) pon.toNat 2 := by
    rw [em3, map_pn m2 d.pa (fun x => { x with la := pon }) (fun p : Pn => (p.fn, p.va, p.fa)) (fun _ => rfl), em2, ← fate_pn m1 pon (by omega) 2 (fun x => { x with fa := 2, by_ := d.pa }) (fun _ => ⟨rfl, rfl, rfl⟩), em1, map_pn m d.pa (fun x => { x with un := x.un ++ [fn] }) (fun p : Pn => (p.fn, p.va, p.fa)) (fun _ => rfl)]
  have a2 : m3.panics.map (·.de) = m.panics.map (·.de) := by
    rw [em3, map_pn m2 d.pa (fun x => { x with la := pon }) (fun p : Pn => p.de) (fun _ => rfl), em2, map_pn m1 pon (fun x => { x with fa := 2, by_ := d.pa }) (fun p : Pn => p.de) (fun _ => rfl), em1, map_pn m d.pa (fun x => { x with un := x.un ++ [fn] }) (fun p : Pn => p.de) (fun _ => rfl)]
  have a3 : m3.panics.map (·.un) = (m.panics.map (·.un)).set d.pa.toNat ((m.panics.map (·.un)).getD d.pa.toNat [] ++ [fn]) := by
    rw [em3, map_pn m2 d.pa (fun x => { x with la := pon }) (fun p : Pn => p.un) (fun _ => rfl), em2, map_pn m1 pon (fun x => { x with fa := 2, by_ := d.pa }) (fun p : Pn => p.un) (fun _ => rfl), em1, un_pn m d.pa h2]
  have a4 : m3.panics.map (·.by_) = (m.panics.map (·.by_)).set pon.toNat d.pa := by
    rw [em3, map_pn m2 d.pa (fun x => { x with la := pon }) (fun p : Pn => p.by_) (fun _ => rfl), em2, set_pn m1 pon (fun x => { x with fa := 2, by_ := d.pa }) (fun p : Pn => p.by_) d.pa rfl, em1, map_pn m d.pa (fun x => { x with un := x.un ++ [fn] }) (fun p : Pn => p.by_) (fun _ => rfl)]
  have a5 : m3.panics.map (·.la) = (m.panics.map (·.la)).set d.pa.toNat pon := by
    rw [em3, set_pn m2 d.pa (fun x => { x with la := pon }) (fun p : Pn => p.la) pon rfl, em2, map_pn m1 pon (fun x => { x with fa := 2, by_ := d.pa }) (fun p : Pn => p.la) (fun _ => rfl), em1, map_pn m d.pa (fun x => { x with un := x.un ++ [fn] }) (fun p : Pn => p.la) (fun _ => rfl)]
  have a6 : m3.recs = m.recs := by rw [em3, em2, em1]; rfl
  have a7 : ∀ k, fnOf m3 k = fnOf m k := by intro k; rw [em3, em2, em1]; rfl
  unfold unwind4
  simp only
  rw [if_pos (by simp [h3])]
  unfold mk4
  rw [a1, a2, a3, a4, a5, a6]
  simp only [a7]
theorem unwind_off {m : Ma} {fn : Int} {d : Fr} {t1 pdf : Bool} {pon : Int} {rest : List (Bool × Int)} {v : Int} (h1 : 0 ≤ d.pa) (h2 : d.pa.toNat < m.panics.length) (h3 : (t1 && decide (0 ≤ pon)) = false) (on : List (Bool × Int)) (k : Int) :
    unwind4 (mk4 m on) ⟨k, fn, v⟩ (t1, d.pa) ((pdf, pon) :: rest) = mk4 (pnSet m d.pa (fun x => { x with un := x.un ++ [fn] })) ((pdf, d.pa) :: rest) := by
  obtain ⟨m1, em1⟩ : ∃ m1, m1 = pnSet m d.pa (fun x => { x with un := x.un ++ [fn] }) := ⟨_, rfl⟩
  rw [← em1]
  unfold unwind4
  simp only
  rw [if_neg (by rw [h3]; exact Bool.false_ne_true)]
  unfold mk4
  simp only
  have a6 : m1.recs = m.recs := by rw [em1]; rfl
  have a7 : ∀ k, fnOf m1 k = fnOf m k := by intro k; rw [em1]; rfl
  rw [un_pn m d.pa h2, em1, map_pn m d.pa (fun x => { x with un := x.un ++ [fn] }) (fun p : Pn => (p.fn, p.va, p.fa)) (fun _ => rfl), map_pn m d.pa (fun x => { x with un := x.un ++ [fn] }) (fun p : Pn => p.de) (fun _ => rfl), map_pn m d.pa (fun x => { x with un := x.un ++ [fn] }) (fun p : Pn => p.by_) (fun _ => rfl), map_pn m d.pa (fun x => { x with un := x.un ++ [fn] }) (fun p : Pn => p.la) (fun _ => rfl)]
  rfl
theorem unwind_last {m : Ma} {fn : Int} {d : Fr} {t1 : Bool} {v : Int} (h1 : 0 ≤ d.pa) (h2 : d.pa.toNat < m.panics.length) (on : List (Bool × Int)) (k : Int) :
    unwind4 (mk4 m on) ⟨k, fn, v⟩ (t1, d.pa) [] = mk4 (pnSet (pnSet m d.pa (fun x => { x with un := x.un ++ [fn] })) d.pa (fun x => { x with fa := 3 })) [] := by
  obtain ⟨m1, em1⟩ : ∃ m1, m1 = pnSet m d.pa (fun x => { x with un := x.un ++ [fn] }) := ⟨_, rfl⟩
  obtain ⟨m2, em2⟩ : ∃ m2, m2 = pnSet m1 d.pa (fun x => { x with fa := 3 }) := ⟨_, rfl⟩
  rw [← em1, ← em2]
  have l1 : m1.panics.length = m.panics.length := by rw [em1]; simp [pnSet]
  have a1 : m2.panics.map (fun p => (p.fn, p.va, p.fa)) = fate4 (m.panics.map (fun p => (p.fn, p.va, p.fa))) d.pa.toNat 3 := by
    rw [em2, ← fate_pn m1 d.pa (by omega) 3 (fun x => { x with fa := 3 }) (fun _ => ⟨rfl, rfl, rfl⟩), em1, map_pn m d.pa (fun x => { x with un := x.un ++ [fn] }) (fun p : Pn => (p.fn, p.va, p.fa)) (fun _ => rfl)]
  have a2 : m2.panics.map (·.de) = m.panics.map (·.de) := by
    rw [em2, map_pn m1 d.pa (fun x => { x with fa := 3 }) (fun p : Pn => p.de) (fun _ => rfl), em1, map_pn m d.pa (fun x => { x with un := x.un ++ [fn] }) (fun p : Pn => p.de) (fun _ => rfl)]
  have a3 : m2.panics.map (·.un) = (m.panics.map (·.un)).set d.pa.toNat ((m.panics.map (·.un)).getD d.pa.toNat [] ++ [fn]) := by
    rw [em2, map_pn m1 d.pa (fun x => { x with fa := 3 }) (fun p : Pn => p.un) (fun _ => rfl), em1, un_pn m d.pa h2]
  have a4 : m2.panics.map (·.by_) = m.panics.map (·.by_) := by
    rw [em2, map_pn m1 d.pa (fun x => { x with fa := 3 }) (fun p : Pn => p.by_) (fun _ => rfl), em1, map_pn m d.pa (fun x => { x with un := x.un ++ [fn] }) (fun p : Pn => p.by_) (fun _ => rfl)]
  have a5 : m2.panics.map (·.la) = m.panics.map (·.la) := by
    rw [em2, map_pn m1 d.pa (fun x => { x with fa := 3 }) (fun p : Pn => p.la) (fun _ => rfl), em1, map_pn m d.pa (fun x => { x with un := x.un ++ [fn] }) (fun p : Pn => p.la) (fun _ => rfl)]
  have a6 : m2.recs = m.recs := by rw [em2, em1]; rfl
  have a7 : ∀ k, fnOf m2 k = fnOf m k := by intro k; rw [em2, em1]; rfl
  unfold unwind4 mk4
  rw [a1, a2, a3, a4, a5, a6]
  simp only [a7]
theorem exit_on {m : Ma} {pdf : Bool} {pa pon : Int} {rest : List (Bool × Int)} (h3 : 0 ≤ pon) (h4 : pon.toNat < m.panics.length) (on : List (Bool × Int)) :
    exit4 (mk4 m on) (true, pa) ((pdf, pon) :: rest) = mk4 (pnSet m pon (fun x => { x with fa := 4 })) ((pdf, -1) :: rest) := by
  obtain ⟨m1, em1⟩ : ∃ m1, m1 = pnSet m pon (fun x => { x with fa := 4 }) := ⟨_, rfl⟩
  rw [← em1]
  have a1 : m1.panics.map (fun p => (p.fn, p.va, p.fa)) = fate4 (m.panics.map (fun p => (p.fn, p.va, p.fa))) pon.toNat 4 := by
    rw [em1, ← fate_pn m pon h4 4 (fun x => { x with fa := 4 }) (fun _ => ⟨rfl, rfl, rfl⟩)]
  have a2 : m1.panics.map (·.de) = m.panics.map (·.de) := by rw [em1, map_pn m pon (fun x => { x with fa := 4 }) (fun p : Pn => p.de) (fun _ => rfl)]
  have a3 : m1.panics.map (·.un) = m.panics.map (·.un) := by rw [em1, map_pn m pon (fun x => { x with fa := 4 }) (fun p : Pn => p.un) (fun _ => rfl)]
  have a4 : m1.panics.map (·.by_) = m.panics.map (·.by_) := by rw [em1, map_pn m pon (fun x => { x with fa := 4 }) (fun p : Pn => p.by_) (fun _ => rfl)]
  have a5 : m1.panics.map (·.la) = m.panics.map (·.la) := by rw [em1, map_pn m pon (fun x => { x with fa := 4 }) (fun p : Pn => p.la) (fun _ => rfl)]
  have a6 : m1.recs = m.recs := by rw [em1]; rfl
  have a7 : ∀ k, fnOf m1 k = fnOf m k := by intro k; rw [em1]; rfl
  unfold exit4
  simp only
  rw [if_pos (by simp [h3])]
  unfold mk4
  rw [a1, a2, a3, a4, a5, a6]
  simp only [a7]
theorem exit_off {m : Ma} {t1 pdf : Bool} {pa pon : Int} {rest : List (Bool × Int)} (h3 : (t1 && decide (0 ≤ pon)) = false) (on : List (Bool × Int)) :
    exit4 (mk4 m on) (t1, pa) ((pdf, pon) :: rest) = mk4 m ((pdf, -1) :: rest) := by
  unfold exit4
  simp only
  rw [if_neg (by rw [h3]; exact Bool.false_ne_true)]
  rfl
theorem mk4_ext {m m' : Ma} (h1 : m'.panics = m.panics) (h2 : m'.recs = m.recs) (h3 : ∀ r ∈ m.recs, fnOf m' r.ca = fnOf m r.ca) (on : List (Bool × Int)) : mk4 m' on = mk4 m on := by
  unfold mk4
  rw [h1, h2]
  congr 1
  exact List.map_congr_left fun r hr => by rw [h3 r hr]
theorem done_fn {L : List (List St)} {fuel : Nat} {m : Ma} {d : Fr} {st : List Fr} (h : P1 L fuel m (d :: st)) : ∀ r ∈ m.recs, fnOf (doneM m d) r.ca = fnOf m r.ca := fun r hr => by
  obtain ⟨a, ⟨c, b1, _⟩, _⟩ := h.rs.ok r hr
  obtain ⟨x, hx, e⟩ := done_calls h _ c b1
  have q1 : fnOf (doneM m d) r.ca = x.fn := by unfold fnOf; rw [List.getD_eq_getElem?_getD, hx]; rfl
  have q2 : fnOf m r.ca = c.fn := by unfold fnOf; rw [List.getD_eq_getElem?_getD, b1]; rfl
  rw [q1, q2, e]
theorem endKind_1 : endKind 1 = 7 := rfl
theorem endKind_2 : endKind 2 = 8 := rfl
theorem endKind_3 : endKind 3 = 9 := rfl
theorem onL_not {f : Fr} {st : List Fr} (h : f.en ≠ 2) : onL false (f :: st) = (f.df, -1) :: onL f.ct st := by rw [onL, if_neg (fun q => h q.1)]
theorem onL_yes {f : Fr} {st : List Fr} (h : f.en = 2) : onL false (f :: st) = (f.df, f.pa) :: onL f.ct st := by rw [onL, if_pos ⟨h, rfl⟩]
theorem arrive_not {m : Ma} {f : Fr} (h : f.en ≠ 2) : arrive m f = m := by unfold arrive; rw [if_neg h]
theorem arrive_yes {m : Ma} {f : Fr} (h : f.en = 2) : arrive m f = pnSet m f.pa (fun x => { x with fa := 3 }) := by unfold arrive; rw [if_pos h]
/-- What the reader of panics comes to, where a call has ended. -/
theorem done_r4 {L : List (List St)} {fuel : Nat} {m : Ma} {d f : Fr} {st : List Fr} (h : P L fuel m (d :: f :: st)) :
    (d.df = true → read4 (doneM m d).trace = some (mk4 (behindM (doneM m d) f d).1 (onL false ((behindM (doneM m d) f d).2 :: st)))) ∧
    (d.df = false → f.en = 1 → read4 (doneM m d).trace = some (mk4 (doneM m d) (onL false ((innerM f d).1 :: st)))) := by
  obtain ⟨p1, p2⟩ := h
  obtain ⟨e1, e2, e3, e4, e5, e6, e7, e8⟩ := done_facts (m := m) (d := d)
  have hfn := done_fn p1
  have hd := p1.top
  have hf := p1.fr f (by simp)
  have hon : onL false (d :: f :: st) = (d.df, if d.en = 2 then d.pa else -1) :: (f.df, if f.en = 2 ∧ d.ct = false then f.pa else -1) :: onL f.ct st := by
    rw [onL, onL]; simp
  have hread : read4 (doneM m d).trace = step4 (mk4 m (onL false (d :: f :: st))) ⟨endKind d.en, d.fn, endVal m d⟩ := by rw [e1, read4_snoc, p2.r4, Option.bind_some]
  rw [hread, hon]
  obtain ⟨pon, hpon⟩ : ∃ pon : Int, pon = if f.en = 2 ∧ d.ct = false then f.pa else -1 := ⟨_, rfl⟩
  rw [← hpon]
  have hok : (d.df && decide (0 ≤ pon)) = true → f.en = 2 ∧ d.ct = false ∧ pon = f.pa ∧ 0 ≤ pon ∧ pon.toNat < m.panics.length := by
    intro hb
    simp only [Bool.and_eq_true, decide_eq_true_eq] at hb
    by_cases hc : f.en = 2 ∧ d.ct = false
    · rw [if_pos hc] at hpon
      have := hf.pa hc.1
      exact ⟨hc.1, hc.2, hpon, hb.2, by rw [hpon]; exact this.2⟩
    · rw [if_neg hc] at hpon; omega
  have hoff : (f.en == 2 && !d.ct) = false → pon = -1 := by
    intro hb
    rw [hpon, if_neg]
    rintro ⟨a, b⟩
    rw [a, b] at hb; cases hb
  have hon2 : (f.en == 2 && !d.ct) = true → f.en = 2 ∧ d.ct = false ∧ pon = f.pa := by
    intro hb
    simp only [Bool.and_eq_true, beq_iff_eq, Bool.not_eq_true'] at hb
    exact ⟨hb.1, hb.2, by rw [hpon, if_pos hb]⟩
  have okp : ∀ (on : List (Bool × Int)) (p : Bool × Int) (q : List (Bool × Int)), (f.df, pon) :: onL f.ct st = p :: q → (d.df && decide (0 ≤ p.2)) = true → okN (mk4 m on) p.2 = true := by
    intro on p q e hb
    injection e with e _
    subst e
    have := hok hb
    exact okN_mk this.2.2.2.1 this.2.2.2.2
  rcases hd.en with en | en | en
  · -- it returned
    rw [en, endKind_1, step4_7 rfl rfl]
    have ep : (doneM m d).panics = m.panics := by rw [e8, if_neg (by omega)]
    have emk : ∀ on, mk4 (doneM m d) on = mk4 m on := mk4_ext ep e3 hfn
    constructor
    · intro hdf
      congr 1
      cases hct : d.ct with
      | true =>
        have hpm : pon = -1 := hoff (by rw [hct, Bool.not_true, Bool.and_false])
        have eb : ∃ x, (x = 1 ∨ x = 3) ∧ behindM (doneM m d) f d = (doneM m d, { f with lv := f.lv || d.lv, en := x }) := by
          unfold behindM
          simp only
          rw [if_neg (by omega), if_neg (by omega), hct, Bool.true_and, if_pos rfl]
          split
          · exact ⟨3, .inr rfl, rfl⟩
          · exact ⟨1, .inl rfl, rfl⟩
        obtain ⟨x, hx, eb⟩ := eb
        rw [eb]
        show _ = mk4 (doneM m d) (onL false ({ f with lv := f.lv || d.lv, en := x } :: st))
        rw [emk, onL_not (by show x ≠ 2; omega), hpm]; rfl
      | false =>
        have eb : behindM (doneM m d) f d = (doneM m d, { f with lv := f.lv || d.lv }) := by
          unfold behindM
          simp only
          rw [if_neg (by omega), if_neg (by omega), hct, Bool.false_and, if_neg Bool.false_ne_true, if_neg Bool.false_ne_true]
        rw [eb]
        show _ = mk4 (doneM m d) (onL false ({ f with lv := f.lv || d.lv } :: st))
        rw [emk, onL, hpon, hct]; simp only [and_true]; rfl
    · intro hdf he
      congr 1
      have ei : (innerM f d).1 = { f with lv := f.lv || d.lv, regs := regSet f.regs 2 (regAt d.regs 1) } := by unfold innerM; simp only; rw [if_pos en]
      rw [ei, emk, onL_not (by show f.en ≠ 2; omega), hoff (by rw [he]; rfl)]; rfl
  · -- it unwound
    obtain ⟨a1, a2⟩ := hd.pa en
    have ep : (doneM m d).panics = (pnSet m d.pa (fun x => { x with un := x.un ++ [d.fn] })).panics := by rw [e8, if_pos en]
    rw [if_pos en, en, endKind_2, step4_8 rfl (t := (d.df, d.pa)) (rest := (f.df, pon) :: onL f.ct st) rfl (okN_mk a1 a2) (okp _)]
    constructor
    · intro hdf
      cases hb : (f.en == 2 && !d.ct) with
      | true =>
        obtain ⟨b1, b2, b3⟩ := hon2 hb
        have hq := hok (by rw [hdf, b3]; simp only [Bool.true_and, decide_eq_true_eq]; exact (hf.pa b1).1)
        have eb : behindM (doneM m d) f d = (pnSet (pnSet (doneM m d) f.pa (fun x => { x with fa := 2, by_ := d.pa })) d.pa (fun x => { x with la := f.pa }), { f with lv := f.lv || d.lv, en := 2, pa := d.pa }) := by
          unfold behindM
          simp only
          rw [if_pos en, hb, if_pos rfl]
        rw [eb, hdf, unwind_on a1 a2 hq.2.2.2.1 hq.2.2.2.2]
        congr 1
        show mk4 _ _ = mk4 _ (onL false ({ f with lv := f.lv || d.lv, en := 2, pa := d.pa } :: st))
        rw [onL, if_pos ⟨rfl, rfl⟩, b3]
        refine (mk4_ext ?_ ?_ ?_ _).symm
        · show (pnSet (pnSet (doneM m d) f.pa (fun x => { x with fa := 2, by_ := d.pa })) d.pa (fun x => { x with la := f.pa })).panics = _
          unfold pnSet pnAt
          simp only
          rw [ep]; rfl
        · exact e3
        · exact hfn
      | false =>
        have hpm := hoff hb
        have eb : behindM (doneM m d) f d = (doneM m d, { f with lv := f.lv || d.lv, en := 2, pa := d.pa }) := by
          unfold behindM
          simp only
          rw [if_pos en, hb, if_neg Bool.false_ne_true]
        rw [eb, unwind_off a1 a2 (by rw [hpm]; simp)]
        congr 1
        show mk4 _ _ = mk4 _ (onL false ({ f with lv := f.lv || d.lv, en := 2, pa := d.pa } :: st))
        rw [onL, if_pos ⟨rfl, rfl⟩]
        exact (mk4_ext ep e3 hfn _).symm
    · intro hdf he
      have ei : (innerM f d).1 = { f with lv := f.lv || d.lv, en := d.en, pa := d.pa } := by unfold innerM; simp only; rw [if_neg (by omega)]
      rw [ei, unwind_off a1 a2 (by rw [hdf]; rfl)]
      congr 1
      rw [onL, if_pos ⟨en, rfl⟩]
      exact (mk4_ext ep e3 hfn _).symm
  · -- it left
    have ep : (doneM m d).panics = m.panics := by rw [e8, if_neg (by omega)]
    rw [en, endKind_3, step4_9 rfl (t := (d.df, if (3 : Int) = 2 then d.pa else -1)) (rest := (f.df, pon) :: onL f.ct st) rfl (okp _)]
    constructor
    · intro hdf
      cases hb : (f.en == 2 && !d.ct) with
      | true =>
        obtain ⟨b1, b2, b3⟩ := hon2 hb
        have hq := hok (by rw [hdf, b3]; simp only [Bool.true_and, decide_eq_true_eq]; exact (hf.pa b1).1)
        have eb : behindM (doneM m d) f d = (pnSet (doneM m d) f.pa (fun x => { x with fa := 4 }), { f with lv := f.lv || d.lv, en := 3 }) := by
          unfold behindM
          simp only
          rw [if_neg (by omega), if_pos en, hb, if_pos rfl]
        rw [eb, hdf, exit_on hq.2.2.2.1 hq.2.2.2.2]
        congr 1
        show mk4 _ _ = mk4 _ (onL false ({ f with lv := f.lv || d.lv, en := 3 } :: st))
        rw [onL, if_neg (by show ¬ ((3 : Int) = 2 ∧ _); omega), b3]
        refine (mk4_ext ?_ ?_ ?_ _).symm
        · show (pnSet (doneM m d) f.pa (fun x => { x with fa := 4 })).panics = _
          unfold pnSet pnAt
          simp only
          rw [ep]
        · exact e3
        · exact hfn
      | false =>
        have hpm := hoff hb
        have eb : behindM (doneM m d) f d = (doneM m d, { f with lv := f.lv || d.lv, en := 3 }) := by
          unfold behindM
          simp only
          rw [if_neg (by omega), if_pos en, hb, if_neg Bool.false_ne_true]
        rw [eb, exit_off (by rw [hpm]; simp)]
        congr 1
        show mk4 _ _ = mk4 _ (onL false ({ f with lv := f.lv || d.lv, en := 3 } :: st))
        rw [onL, if_neg (by show ¬ ((3 : Int) = 2 ∧ _); omega)]
        exact (mk4_ext ep e3 hfn _).symm
    · intro hdf he
      have ei : (innerM f d).1 = { f with lv := f.lv || d.lv, en := d.en, pa := d.pa } := by unfold innerM; simp only; rw [if_neg (by omega)]
      rw [ei, exit_off (by rw [hdf]; rfl)]
      congr 1
      rw [onL, if_neg (by show ¬ (d.en = 2 ∧ _); omega)]
      exact (mk4_ext ep e3 hfn _).symm
theorem P1.pans_len {m : Ma} (k : Int) (g : Pn → Pn) : (pnSet m k g).panics.length = m.panics.length := by simp [pnSet]
theorem along_finish {L : List (List St)} {fuel : Nat} (m : Ma) (d : Fr) (st : List Fr) (hp : P L fuel m (d :: st)) (h0 : st = [] → d.id = 0) : F L fuel (doneM m d) d st := by
  obtain ⟨p1, p2⟩ := hp
  obtain ⟨q1, ql, qc, qv⟩ := p1.done
  obtain ⟨r3, len, r5, ct⟩ := done_r3 p1 p2
  obtain ⟨e1, e2, e3, e4, e5, e6, e7, e8⟩ := done_facts (m := m) (d := d)
  have hd := p1.top
  have hd' : FrOk L (doneM m d).panics.length (doneM m d).calls.length d := by rw [ql, qc]; exact hd
  cases st with
  | nil =>
    refine ⟨q1.ma, hd', q1.cs, q1.rs, q1.ps, q1.dep, h0 rfl, r3, ?_, len, r5, ?_⟩
    · have hon : onL false [d] = [(d.df, if d.en = 2 then d.pa else -1)] := by rw [onL, onL]; simp
      rw [e1, read4_snoc, p2.r4, Option.bind_some, hon]
      have hfn := done_fn p1
      rcases hd.en with en | en | en
      · have ep : (doneM m d).panics = m.panics := by rw [e8, if_neg (by omega)]
        rw [en, endKind_1, step4_7 rfl rfl]
        congr 1
        rw [arrive_not (by omega)]
        exact (mk4_ext ep e3 hfn _).symm
      · obtain ⟨a1, a2⟩ := hd.pa en
        have ep : (doneM m d).panics = (pnSet m d.pa (fun x => { x with un := x.un ++ [d.fn] })).panics := by rw [e8, if_pos en]
        rw [if_pos en, en, endKind_2, step4_8 rfl (t := (d.df, d.pa)) (rest := []) rfl (okN_mk a1 a2) (fun p q e => by cases e), unwind_last a1 a2]
        congr 1
        rw [arrive_yes en]
        refine (mk4_ext (m := pnSet (pnSet m d.pa (fun x => { x with un := x.un ++ [d.fn] })) d.pa (fun x => { x with fa := 3 })) (m' := pnSet (doneM m d) d.pa (fun x => { x with fa := 3 })) ?_ e3 hfn _).symm
        show (pnSet (doneM m d) d.pa (fun x => { x with fa := 3 })).panics = _
        unfold pnSet pnAt
        simp only
        rw [ep]; rfl
      · have ep : (doneM m d).panics = m.panics := by rw [e8, if_neg (by omega)]
        rw [en, endKind_3, step4_9 rfl (t := (d.df, if (3 : Int) = 2 then d.pa else -1)) (rest := []) rfl (fun p q e => by cases e)]
        congr 1
        rw [arrive_not (by omega)]
        exact (mk4_ext ep e3 hfn _).symm
    · obtain ⟨⟨c, l1, _⟩, _⟩ := p1.links
      rw [e7, h0 rfl]
      rw [h0 rfl] at l1
      refine ⟨_, List.getElem?_set_self (List.getElem?_eq_some_iff.1 l1).1, rfl, ?_⟩
      show endVal m d = _
      unfold endVal
      rw [qv]
  | cons f st =>
    obtain ⟨g1, g2⟩ := done_r4 ⟨p1, p2⟩
    have hf := q1.top
    have ov := (List.pairwise_cons.1 p1.over).1 f (by simp)
    have ov2 : ∀ g ∈ st, Over d g := fun g hg => (List.pairwise_cons.1 p1.over).1 g (by simp [hg])
    unfold F
    dsimp only
    split
    · rename_i hdf
      have hr4 := g1 hdf
      -- the machine's panics
      have hm5 : P1 L fuel (behindM (doneM m d) f d).1 (f :: st) ∧ (behindM (doneM m d) f d).1.panics.length = m.panics.length ∧ (behindM (doneM m d) f d).1.calls = (doneM m d).calls ∧ (behindM (doneM m d) f d).1.trace = (doneM m d).trace ∧
          (behindM (doneM m d) f d).1.owners = (doneM m d).owners ∧ (behindM (doneM m d) f d).1.recs = (doneM m d).recs ∧ agN (behindM (doneM m d) f d).1.panics = agN (doneM m d).panics := by
        unfold behindM
        simp only
        split
        · rename_i en
          split
          · rename_i hb
            simp only [Bool.and_eq_true, beq_iff_eq, Bool.not_eq_true'] at hb
            have b1 := hf.pa hb.1
            have b2 := hd'.pa en
            have hlt := ov en hb.1
            have s1 := q1.pans f.pa (fun x => { x with fa := 2, by_ := d.pa }) (fun _ => rfl) (fun _ x hx => ⟨by
              have := q1.ps.la _ x hx
              exact ⟨this.1, by show x.la < f.pa; omega⟩, by show (0 : Int) ≤ 2; omega, by show (2 : Int) ≤ 4; omega, by show (2 : Int) ≠ 3; omega⟩) b1.1 b1.2
            have s2 := s1.pans d.pa (fun x => { x with la := f.pa }) (fun _ => rfl) (fun _ x hx => ⟨⟨by show -1 ≤ f.pa; omega, by show f.pa < d.pa; omega⟩, s1.ps.fa x (List.mem_of_getElem? hx)⟩) b2.1 (by rw [P1.pans_len]; exact b2.2)
            refine ⟨s2, by rw [P1.pans_len, P1.pans_len]; exact ql, rfl, rfl, rfl, rfl, ?_⟩
            rw [agN_pn (pnSet (doneM m d) f.pa (fun x => { x with fa := 2, by_ := d.pa })) d.pa (fun x => { x with la := f.pa }) (fun _ => rfl), agN_pn (doneM m d) f.pa (fun x => { x with fa := 2, by_ := d.pa }) (fun _ => rfl)]
          · exact ⟨q1, ql, rfl, rfl, rfl, rfl, rfl⟩
        · split
          · split
            · rename_i hb
              simp only [Bool.and_eq_true, beq_iff_eq, Bool.not_eq_true'] at hb
              have b1 := hf.pa hb.1
              refine ⟨q1.pans f.pa (fun x => { x with fa := 4 }) (fun _ => rfl) (fun _ x hx => ⟨?_, by show (0 : Int) ≤ 4; omega, by show (4 : Int) ≤ 4; omega, by show (4 : Int) ≠ 3; omega⟩) b1.1 b1.2, by rw [P1.pans_len]; exact ql, rfl, rfl, rfl, rfl, ?_⟩
              · have := q1.ps.la _ x hx
                exact ⟨this.1, by show x.la < f.pa; omega⟩
              · rw [agN_pn (doneM m d) f.pa (fun x => { x with fa := 4 }) (fun _ => rfl)]
            · exact ⟨q1, ql, rfl, rfl, rfl, rfl, rfl⟩
          · split
            · exact ⟨q1, ql, rfl, rfl, rfl, rfl, rfl⟩
            · split <;> exact ⟨q1, ql, rfl, rfl, rfl, rfl, rfl⟩
      obtain ⟨s1, s2, s3, s4, s5, s6, s7⟩ := hm5
      have sf := s1.top
      have hfr : (behindM (doneM m d) f d).2.regs = f.regs ∧ (behindM (doneM m d) f d).2.fn = f.fn ∧ (behindM (doneM m d) f d).2.runs = f.runs ∧ (behindM (doneM m d) f d).2.ct = f.ct ∧ (behindM (doneM m d) f d).2.df = f.df ∧ (behindM (doneM m d) f d).2.id = f.id ∧
          (((behindM (doneM m d) f d).2.en = f.en ∧ (behindM (doneM m d) f d).2.pa = f.pa) ∨ (d.en = 2 ∧ (behindM (doneM m d) f d).2.en = 2 ∧ (behindM (doneM m d) f d).2.pa = d.pa) ∨ (behindM (doneM m d) f d).2.en = 1 ∨ (behindM (doneM m d) f d).2.en = 3) := by
        unfold behindM
        simp only
        split
        · exact ⟨rfl, rfl, rfl, rfl, rfl, rfl, .inr (.inl ⟨by assumption, rfl, rfl⟩)⟩
        · split
          · exact ⟨rfl, rfl, rfl, rfl, rfl, rfl, .inr (.inr (.inr rfl))⟩
          · split
            · exact ⟨rfl, rfl, rfl, rfl, rfl, rfl, .inr (.inr (.inr rfl))⟩
            · split
              · exact ⟨rfl, rfl, rfl, rfl, rfl, rfl, .inr (.inr (.inl rfl))⟩
              · exact ⟨rfl, rfl, rfl, rfl, rfl, rfl, .inl ⟨rfl, rfl⟩⟩
      obtain ⟨t1, t2, t3, t4, t5, t6, t7⟩ := hfr
      refine ⟨s1.set ⟨by rw [t1]; exact sf.len, by rw [t1]; exact sf.regs, by rw [t2]; exact sf.fn, by rw [t3]; exact sf.runs, ?_, ?_, by rw [t4, t5]; exact sf.ct, by rw [t6]; exact sf.id⟩ t6 t2 t5 ?_, ?_, ?_, ?_, ?_, ?_⟩
      · rcases t7 with ⟨a, _⟩ | ⟨_, a, _⟩ | a | a
        · rw [a]; exact sf.en
        · exact .inr (.inl a)
        · exact .inl a
        · exact .inr (.inr a)
      · intro e
        rcases t7 with ⟨a, b⟩ | ⟨c, a, b⟩ | a | a
        · rw [b]; exact sf.pa (by rw [← a]; exact e)
        · rw [b, s2]; exact hd.pa c
        · omega
        · omega
      · intro g hg e e'
        rcases t7 with ⟨a, b⟩ | ⟨c, a, b⟩ | a | a
        · rw [b]; exact (List.pairwise_cons.1 q1.over).1 g hg (by rw [← a]; exact e) e'
        · rw [b]; exact ov2 g hg c e'
        · omega
        · omega
      · rw [s4, s3, s5, r3]; show some (R3.mk _ _ (f.id : Int)) = some (R3.mk _ _ ((behindM (doneM m d) f d).2.id : Int)); rw [t6]
      · rw [s4]; exact hr4
      · rw [s5, s4]; exact len
      · rw [s4, s5, s6, s7]; exact r5
      · intro g hg
        rw [s6]
        rcases List.mem_cons.1 hg with rfl | hg
        · rw [t4, t6]; exact ct f (by simp)
        · exact ct g (by simp [hg])
    · rename_i hdf
      have hdf' : d.df = false := by simpa using hdf
      intro he
      have hr4 := g2 hdf' he
      have hfr : (innerM f d).1.fn = f.fn ∧ (innerM f d).1.runs = f.runs ∧ (innerM f d).1.ct = f.ct ∧ (innerM f d).1.df = f.df ∧ (innerM f d).1.id = f.id ∧
          (((innerM f d).1.en = f.en ∧ (innerM f d).1.pa = f.pa ∧ (innerM f d).1.regs = regSet f.regs 2 (regAt d.regs 1)) ∨ ((innerM f d).1.en = d.en ∧ (innerM f d).1.pa = d.pa ∧ (innerM f d).1.regs = f.regs)) := by
        unfold innerM
        simp only
        split
        · exact ⟨rfl, rfl, rfl, rfl, rfl, .inl ⟨rfl, rfl, rfl⟩⟩
        · exact ⟨rfl, rfl, rfl, rfl, rfl, .inr ⟨rfl, rfl, rfl⟩⟩
      obtain ⟨t2, t3, t4, t5, t6, t7⟩ := hfr
      refine ⟨q1.set ⟨?_, ?_, by rw [t2]; exact hf.fn, by rw [t3]; exact hf.runs, ?_, ?_, by rw [t4, t5]; exact hf.ct, by rw [t6]; exact hf.id⟩ t6 t2 t5 ?_, ?_, hr4, len, r5, ?_⟩
      · rcases t7 with ⟨_, _, c⟩ | ⟨_, _, c⟩ <;> rw [c]
        · rw [regSet_len']; exact hf.len
        · exact hf.len
      · rcases t7 with ⟨_, _, c⟩ | ⟨_, _, c⟩ <;> rw [c]
        · exact regSet_ok hf.regs _ (regAt_ok hd.regs _)
        · exact hf.regs
      · rcases t7 with ⟨a, _, _⟩ | ⟨a, _, _⟩ <;> rw [a]
        · exact hf.en
        · exact hd.en
      · rcases t7 with ⟨a, b, _⟩ | ⟨a, b, _⟩ <;> rw [a, b]
        · exact hf.pa
        · exact hd'.pa
      · intro g hg e e'
        rcases t7 with ⟨a, b, _⟩ | ⟨a, b, _⟩
        · rw [a] at e; omega
        · rw [b]; exact ov2 g hg (by rw [← a]; exact e) e'
      · rw [r3]; show some (R3.mk _ _ (f.id : Int)) = some (R3.mk _ _ ((innerM f d).1.id : Int)); rw [t6]
      · intro g hg
        rcases List.mem_cons.1 hg with rfl | hg
        · rw [t4, t6]; exact ct f (by simp)
        · exact ct g (by simp [hg])
def First (m : Ma) (st : List Fr) : Prop := (st = [] → m.calls = []) ∧ ∀ f, st.getLast? = some f → f.id = 0
def PP (L : List (List St)) (fuel : Nat) (m : Ma) (st : List Fr) : Prop := P L fuel m st ∧ First m st
def FF (L : List (List St)) (fuel : Nat) (m : Ma) (d : Fr) (st : List Fr) : Prop := F L fuel m d st ∧ ∀ f, (d :: st).getLast? = some f → f.id = 0
theorem last_head {f f' : Fr} {st : List Fr} (h : ∀ g, (f :: st).getLast? = some g → g.id = 0) (e : f'.id = f.id) : ∀ g, (f' :: st).getLast? = some g → g.id = 0 := by
  intro g hg
  cases st with
  | nil => simp at hg; subst hg; rw [e]; exact h f rfl
  | cons x r => exact h g (by rw [List.getLast?_cons_cons] at hg ⊢; exact hg)
theorem last_tail {f x : Fr} {st : List Fr} (h : ∀ g, (f :: x :: st).getLast? = some g → g.id = 0) : ∀ g, (x :: st).getLast? = some g → g.id = 0 := fun g hg => h g (by rw [List.getLast?_cons_cons]; exact hg)
theorem last_cons {f x : Fr} {st : List Fr} (h : ∀ g, (x :: st).getLast? = some g → g.id = 0) : ∀ g, (f :: x :: st).getLast? = some g → g.id = 0 := fun g hg => h g (by rw [List.getLast?_cons_cons] at hg; exact hg)
theorem shape_id {m : Ma} {f : Fr} {par : Option Fr} {m' : Ma} {f' : Fr} {par' : Option Fr} (h : Shape m f par m' f' par') : f'.id = f.id := by
  cases h with
  | still _ _ _ h1 h2 h3 h4 h5 h6 g1 g2 g3 g4 g5 => exact g1
  | told k x v hk _ g1 g2 g3 g4 g5 => exact g1
  | panic v => rfl
  | recover p hp hd hc he rs => rfl
/-- All of it holds along a run of a valid program. -/
theorem along {L : List (List St)} (hL : ProgOk L) (fuel : Nat) : Along L fuel (fun fn arg => FnOk L fn ∧ n16 arg) (PP L fuel) (FF L fuel) where
  start m st fn arg df hp h0 h1 h2 := by
    obtain ⟨hp, hfi⟩ := hp
    have hfa : FnOk L fn ∧ n16 arg := by
      cases st with
      | nil => exact h0 rfl
      | cons f r =>
        have hf := hp.1.fr f (by simp)
        cases df with
        | false =>
          obtain ⟨e, s, hs, k4, ea, er⟩ := h1 rfl f rfl
          have := (hL _ _ hs).2.2.2.2.1 (.inl k4)
          exact ⟨by rw [← ea]; exact ⟨this.1, this.2.1⟩, by rw [er]; exact regAt_ok hf.regs _⟩
        | true =>
          obtain ⟨g, hg, q, hq⟩ := h2 rfl
          injection hg with hg
          subst hg
          have := (hq.1.1.fr _ List.mem_cons_self).runs (fn, arg) (List.mem_append_right _ List.mem_cons_self)
          exact this
    refine ⟨along_start hL m st fn arg df hp hfa (fun e f hf => (h1 e f hf).1) (fun e q => ?_), (fun e => by cases e), ?_⟩
    · obtain ⟨g, hg, _⟩ := h2 e
      rw [q] at hg; cases hg
    · cases st with
      | nil =>
        intro g hg
        simp at hg
        subst hg
        show m.calls.length = 0
        rw [hfi.1 rfl]; rfl
      | cons x r => exact last_cons hfi.2
  made m f st hp hne hs := by
    obtain ⟨⟨p1, p2⟩, hfi⟩ := hp
    have := p1.ma.made
    exact ⟨⟨p1.machine ⟨by show m.made + 1 ≤ fuel; omega, p1.ma.shared, p1.ma.pans⟩ rfl rfl rfl rfl, p2.congr rfl rfl rfl rfl rfl rfl fun g hg => ⟨g, hg, rfl, rfl⟩⟩, (fun e => by cases e), hfi.2⟩
  step m f st s hp he hs k4 k11 := by
    obtain ⟨hp, hfi⟩ := hp
    refine ⟨along_step hL m f st s hp he hs, (fun e => by cases e), ?_⟩
    have hid := shape_id (shape m f st.head? s he)
    obtain ⟨_, _, _, q4, q5⟩ := stepM_par m f st.head? s
    rcases parentOf q4 q5 with ⟨e1, rfl⟩ | ⟨p, r, x, rfl, e1⟩
    · rw [e1]; exact last_head hfi.2 hid
    · rw [e1]
      show ∀ g, (_ :: { p with regs := x } :: r).getLast? = some g → g.id = 0
      exact last_cons (last_head (last_tail hfi.2) rfl)
  drop m f st n hp := by
    obtain ⟨⟨p1, p2⟩, hfi⟩ := hp
    have hf := p1.top
    refine ⟨⟨p1.set ⟨hf.len, hf.regs, hf.fn, fun x hx => hf.runs x (List.mem_of_mem_take hx), hf.en, hf.pa, hf.ct, hf.id⟩ rfl rfl rfl (List.pairwise_cons.1 p1.over).1, p2.congr rfl rfl rfl rfl rfl rfl fun g hg => ?_⟩, (fun e => by cases e), last_head hfi.2 rfl⟩
    rcases List.mem_cons.1 hg with rfl | hg
    · exact ⟨f, by simp, rfl, rfl⟩
    · exact ⟨g, by simp [hg], rfl, rfl⟩
  inner m f d st hp he hd := by
    obtain ⟨hp, hfi⟩ := hp
    unfold F at hp
    dsimp only at hp
    rw [hd, if_neg Bool.false_ne_true] at hp
    refine ⟨hp he, (fun e => by cases e), last_head (last_tail hfi) ?_⟩
    unfold innerM
    simp only
    split <;> rfl
  behind m f d st hp hd := by
    obtain ⟨hp, hfi⟩ := hp
    unfold F at hp
    dsimp only at hp
    rw [hd, if_pos rfl] at hp
    refine ⟨hp, (fun e => by cases e), last_head (last_tail hfi) ?_⟩
    unfold behindM
    simp only
    split
    · rfl
    · split
      · rfl
      · split
        · rfl
        · split <;> rfl
  finish m f st hp := by
    obtain ⟨hp, hfi⟩ := hp
    exact ⟨along_finish m f st hp fun e => by subst e; exact hfi.2 f rfl, hfi.2⟩
theorem zero_PP (L : List (List St)) (fuel : Nat) : PP L fuel (zeroM 0) [] := by
  refine ⟨⟨⟨⟨Nat.zero_le _, n16_zero, ?_⟩, ?_, trivial, rfl, trivial, ⟨?_, ?_⟩, ⟨?_⟩, ⟨?_, ?_⟩, List.Pairwise.nil⟩, ⟨rfl, rfl, rfl, rfl, ?_⟩⟩, fun _ => rfl, ?_⟩
  · intro p hp; cases hp
  · intro f hf; cases hf
  · intro k c h; cases h
  · intro c h; cases h
  · intro r h; cases h
  · intro k c h; cases h
  · intro c h; cases h
  · intro f hf; cases hf
  · intro f hf; cases hf
/-- What a whole run leaves. -/
theorem ran_along {L : List (List St)} (hL : ProgOk L) {fuel : Nat} {fn arg : Int} (h1 : FnOk L fn) (h2 : n16 arg) :
    match callM L fuel 8 (zeroM 0) fn arg none false with
    | .spent m => ∃ st, P L fuel m st
    | .ok m (_, f) => Ended L fuel m f := by
  have := along_call (along hL fuel) 8 (zeroM 0) [] fn arg false (zero_PP L fuel) (fun _ => ⟨h1, h2⟩) (fun _ f hf => by cases hf) (fun h => by cases h)
  rw [show ([] : List Fr).head? = none from rfl] at this
  revert this
  cases callM L fuel 8 (zeroM 0) fn arg none false with
  | spent m => exact fun ⟨st, h⟩ => ⟨st, h.1⟩
  | ok m x =>
    obtain ⟨par, f⟩ := x
    rintro ⟨h1, h2, h3, h4⟩
    cases par with
    | none => exact h1.1
    | some p => simp at h3
end Go.Proofs.Ytobikkdnalnllaa
namespace Go.Proofs.Ytobikkdnalnllaa
open Go.RowKit SL
set_option linter.unusedVariables false
set_option linter.unusedSimpArgs false
/-- As Along, with Q behind a counted step. -/
structure Along2 (L : List (List St)) (fuel : Nat) (T : Int → Int → Prop) (P Q : Ma → List Fr → Prop) (F : Ma → Fr → List Fr → Prop) : Prop where
  start0 : ∀ m fn arg, P m [] → T fn arg → P (startM m fn arg none false).1 [(startM m fn arg none false).2]
  start1 : ∀ m f st s, Q m (f :: st) → f.en = 1 → s ∈ bodyOf L f.fn → s.k = 4 → P (startM m s.a (regAt f.regs s.b) (some f) false).1 ((startM m s.a (regAt f.regs s.b) (some f) false).2 :: f :: st)
  startD : ∀ m f st fn arg, P m ({ f with runs := f.runs ++ [(fn, arg)] } :: st) → P (startM m fn arg (some f) true).1 ((startM m fn arg (some f) true).2 :: f :: st)
  made : ∀ m f st, P m (f :: st) → m.made ≠ fuel → (∃ s, s ∈ bodyOf L f.fn) → Q { m with made := m.made + 1 } (f :: st)
  weak : ∀ m st, Q m st → P m st
  step : ∀ m f st s, Q m (f :: st) → f.en = 1 → s ∈ bodyOf L f.fn → s.k ≠ 4 → s.k ≠ 11 →
    P (stepM m f st.head? s).1 ((stepM m f st.head? s).2.1 :: putHead (stepM m f st.head? s).2.2.1 st)
  inner : ∀ m f d st, F m d (f :: st) → f.en = 1 → d.df = false → P m ((innerM f d).1 :: st)
  behind : ∀ m f d st, F m d (f :: st) → d.df = true → P (behindM m f d).1 ((behindM m f d).2 :: st)
  finish : ∀ m f st, P m (f :: st) → F { finishM m f with depth := (finishM m f).depth - 1 } f st
/-- How a call may begin. -/
inductive SP (L : List (List St)) (T : Int → Int → Prop) (P Q : Ma → List Fr → Prop) : Ma → List Fr → Int → Int → Bool → Prop
  | first {m fn arg} (h : P m []) (t : T fn arg) : SP L T P Q m [] fn arg false
  | inner {m f st s} (h : Q m (f :: st)) (e : f.en = 1) (hs : s ∈ bodyOf L f.fn) (k : s.k = 4) : SP L T P Q m (f :: st) s.a (regAt f.regs s.b) false
  | last {m f st fn arg} (h : P m ({ f with runs := f.runs ++ [(fn, arg)] } :: st)) : SP L T P Q m (f :: st) fn arg true
def CallOk2 (L : List (List St)) (T : Int → Int → Prop) (P Q : Ma → List Fr → Prop) (F : Ma → Fr → List Fr → Prop) (call : CallM) : Prop := ∀ m st fn arg df, SP L T P Q m st fn arg df → AlongCall P F (call m fn arg st.head? df) df st
section
variable {L : List (List St)} {fuel : Nat} {T : Int → Int → Prop} {P Q : Ma → List Fr → Prop} {F : Ma → Fr → List Fr → Prop}
theorem SP.start (A : Along2 L fuel T P Q F) {m : Ma} {st : List Fr} {fn arg : Int} {df : Bool} (h : SP L T P Q m st fn arg df) : P (startM m fn arg st.head? df).1 ((startM m fn arg st.head? df).2 :: st) := by
  cases h with
  | first h t => exact A.start0 _ _ _ h t
  | inner h e hs k => exact A.start1 _ _ _ _ h e hs k
  | last h => exact A.startD _ _ _ _ _ h
theorem SP.some (A : Along2 L fuel T P Q F) {m : Ma} {st : List Fr} {fn arg : Int} {df : Bool} (h : SP L T P Q m st fn arg df) : ∃ st', P m st' := by
  cases h with
  | first h t => exact ⟨_, h⟩
  | inner h e hs k => exact ⟨_, A.weak _ _ h⟩
  | last h => exact ⟨_, h⟩
/-- Behind a call that a step makes. -/
theorem along2_inner (A : Along2 L fuel T P Q F) {call : CallM} (hc : CallOk2 L T P Q F call) {m : Ma} {f : Fr} {st : List Fr} {s : St} (h : Q m (f :: st)) (e : f.en = 1) (hs : s ∈ bodyOf L f.fn) (k : s.k = 4) :
    match call m s.a (regAt f.regs s.b) (some f) false with
    | .spent m2 => ∃ st', P m2 st'
    | .ok m2 (pf, d) => ∃ x, pf = some { f with regs := x } ∧ F m2 d ({ f with regs := x } :: st) ∧ d.df = false ∧ P m2 ((innerM { f with regs := x } d).1 :: st) := by
  have H := hc m (f :: st) s.a (regAt f.regs s.b) false (.inner h e hs k)
  rw [show (f :: st).head? = some f from rfl] at H
  revert H
  cases call m s.a (regAt f.regs s.b) (some f) false with
  | spent m2 => exact fun h => h
  | ok m2 x =>
    obtain ⟨pf, d⟩ := x
    rintro ⟨h1, h2, h3, h4⟩
    cases pf with
    | none => simp at h3
    | some g =>
      obtain ⟨x, p0, hp0, rfl⟩ := h4 g rfl
      injection hp0 with hp0
      subst hp0
      exact ⟨x, rfl, h1, h2, A.inner m2 { f with regs := x } d st h1 e h2⟩
theorem along2_body (A : Along2 L fuel T P Q F) {call : CallM} (hc : CallOk2 L T P Q F call) (df : Bool) : ∀ (n : Nat) (m : Ma) (f : Fr) (st : List Fr) (at_ : Nat), P m (f :: st) → f.en = 1 → f.df = df →
    AlongOut P (bodyM call L fuel n m f st.head? at_) df st
  | 0, m, f, st, at_, hp, he, hd => ⟨_, hp⟩
  | n + 1, m, f, st, at_, hp, he, hd => by
    rw [bodyM]
    cases hs : (bodyOf L f.fn)[at_]? with
    | none => exact ⟨by rw [putHead_self]; exact hp, hd, rfl, fun p h => ⟨p.regs, p, h, rfl⟩⟩
    | some s =>
      have hmem := List.mem_of_getElem? hs
      simp only
      by_cases hf : m.made = fuel
      · rw [if_pos hf]; exact ⟨_, hp⟩
      rw [if_neg hf]
      have hp1 := A.made m f st hp hf ⟨s, hmem⟩
      by_cases k11 : s.k = 11
      · rw [if_pos k11]; exact along2_body A hc df n _ f st _ (A.weak _ _ hp1) he hd
      rw [if_neg k11]
      by_cases k4 : s.k = 4
      · rw [if_pos k4]
        have h := along2_inner A hc hp1 he hmem k4
        revert h
        cases call { m with made := m.made + 1 } s.a (regAt f.regs s.b) (some f) false with
        | spent m2 => exact fun h => h
        | ok m2 x =>
          obtain ⟨pf, d⟩ := x
          rintro ⟨x, rfl, h1, h2, hi⟩
          simp only [Option.getD_some]
          have e1 : (innerM { f with regs := x } d).1.df = f.df ∧ ((innerM { f with regs := x } d).2 = false → (innerM { f with regs := x } d).1.en = 1) := by
            unfold innerM
            simp only
            split
            · exact ⟨rfl, fun _ => he⟩
            · exact ⟨rfl, (fun h => by cases h)⟩
          cases hb : (innerM { f with regs := x } d).2 with
          | true => rw [if_pos rfl]; exact ⟨by rw [putHead_self]; exact hi, e1.1.trans hd, rfl, fun p h => ⟨p.regs, p, h, rfl⟩⟩
          | false => rw [if_neg Bool.false_ne_true]; exact along2_body A hc df n _ _ st _ hi (e1.2 hb) (e1.1.trans hd)
      rw [if_neg k4]
      obtain ⟨q1, q2, q3, q4, q5⟩ := stepM_par { m with made := m.made + 1 } f st.head? s
      have h := A.step _ f st s hp1 he hmem k4 k11
      cases hb : (stepM { m with made := m.made + 1 } f st.head? s).2.2.2 with
      | true => rw [if_pos rfl]; exact ⟨h, q1.trans hd, q4, q5⟩
      | false =>
        rw [if_neg Bool.false_ne_true]
        have hh := putHead_tail _ st q4
        have := along2_body A hc df n _ _ _ (at_ + 1) h (q3 hb he) (q1.trans hd)
        rw [hh.1] at this
        revert this
        cases bodyM call L fuel n (stepM { m with made := m.made + 1 } f st.head? s).1 (stepM { m with made := m.made + 1 } f st.head? s).2.1 (stepM { m with made := m.made + 1 } f st.head? s).2.2.1 (at_ + 1) with
        | spent m2 => exact fun h => h
        | ok m2 x =>
          obtain ⟨f2, par2⟩ := x
          rintro ⟨a1, a2, a3, a4⟩
          refine ⟨by rw [putHead_put _ _ _ q4] at a1; exact a1, a2, by rw [a3, hh.1, q4], fun p hp => ?_⟩
          obtain ⟨x, p0, e1, e2⟩ := a4 p hp
          rw [hh.1] at e1
          obtain ⟨y, p1, e3, e4⟩ := q5 p0 e1
          exact ⟨x, p1, e3, by rw [e2, e4]⟩
theorem runs_snoc {f : Fr} {n : Nat} (hn : f.runs.length = n + 1) : f.runs = f.runs.take n ++ [f.runs.getD n (0, 0)] := by
  have hl : f.runs[n]? = some (f.runs.getD n (0, 0)) := by rw [List.getD_eq_getElem?_getD, List.getElem?_eq_getElem (by omega)]; rfl
  have h1 : f.runs.take (n + 1) = f.runs := List.take_of_length_le (by omega)
  conv => lhs; rw [← h1]
  rw [List.take_add_one, hl]; rfl
/-- One deferred call is run. -/
theorem along2_last (A : Along2 L fuel T P Q F) {call : CallM} (hc : CallOk2 L T P Q F call) {m : Ma} {f : Fr} {st : List Fr} {n : Nat} (hp : P m (f :: st)) (hn : f.runs.length = n + 1) :
    SP L T P Q m ({ f with runs := f.runs.take n } :: st) (f.runs.getD n (0, 0)).1 (f.runs.getD n (0, 0)).2 true ∧
    match call m (f.runs.getD n (0, 0)).1 (f.runs.getD n (0, 0)).2 (some { f with runs := f.runs.take n }) true with
    | .spent m2 => ∃ st', P m2 st'
    | .ok m2 (pf, d) => ∃ x, pf = some { f with runs := f.runs.take n, regs := x } ∧ F m2 d ({ f with runs := f.runs.take n, regs := x } :: st) ∧ d.df = true ∧ P (behindM m2 { f with runs := f.runs.take n, regs := x } d).1 ((behindM m2 { f with runs := f.runs.take n, regs := x } d).2 :: st) := by
  have hs : SP L T P Q m ({ f with runs := f.runs.take n } :: st) (f.runs.getD n (0, 0)).1 (f.runs.getD n (0, 0)).2 true := .last (by
    show P m ({ f with runs := f.runs.take n ++ [f.runs.getD n (0, 0)] } :: st)
    rw [← runs_snoc hn]; exact hp)
  refine ⟨hs, ?_⟩
  have H := hc m _ _ _ true hs
  rw [show (({ f with runs := f.runs.take n } : Fr) :: st).head? = some { f with runs := f.runs.take n } from rfl] at H
  revert H
  cases call m (f.runs.getD n (0, 0)).1 (f.runs.getD n (0, 0)).2 (some { f with runs := f.runs.take n }) true with
  | spent m2 => exact fun h => h
  | ok m2 x =>
    obtain ⟨pf, d⟩ := x
    rintro ⟨h1, h2, h3, h4⟩
    cases pf with
    | none => simp at h3
    | some g =>
      obtain ⟨x, p0, hp0, rfl⟩ := h4 g rfl
      injection hp0 with hp0
      subst hp0
      exact ⟨x, rfl, h1, h2, A.behind m2 _ d st h1 h2⟩
theorem behind_keeps (m : Ma) (f d : Fr) : (behindM m f d).2.df = f.df ∧ (behindM m f d).2.runs = f.runs ∧ (behindM m f d).2.id = f.id ∧ (behindM m f d).2.fn = f.fn ∧ (behindM m f d).1.depth = m.depth := by
  unfold behindM
  simp only
  split
  · split <;> exact ⟨rfl, rfl, rfl, rfl, rfl⟩
  · split
    · split <;> exact ⟨rfl, rfl, rfl, rfl, rfl⟩
    · split
      · exact ⟨rfl, rfl, rfl, rfl, rfl⟩
      · split <;> exact ⟨rfl, rfl, rfl, rfl, rfl⟩
theorem along2_runs (A : Along2 L fuel T P Q F) {call : CallM} (hc : CallOk2 L T P Q F call) (df : Bool) : ∀ (n : Nat) (m : Ma) (f : Fr) (st : List Fr), P m (f :: st) → f.df = df → f.runs.length = n →
    match runsM call n m f with
    | .spent m' => ∃ st', P m' st'
    | .ok m' f' => P m' (f' :: st) ∧ f'.df = df
  | 0, m, f, st, hp, hd, hn => ⟨hp, hd⟩
  | n + 1, m, f, st, hp, hd, hn => by
    rw [runsM]
    simp only
    have h := (along2_last A hc hp hn).2
    revert h
    cases call m (f.runs.getD n (0, 0)).1 (f.runs.getD n (0, 0)).2 (some { f with runs := f.runs.take n }) true with
    | spent m2 => exact fun h => h
    | ok m2 x =>
      obtain ⟨pf, d⟩ := x
      rintro ⟨x, rfl, h1, h2, hi⟩
      simp only [Option.getD_some]
      have e1 := behind_keeps m2 { f with runs := f.runs.take n, regs := x } d
      exact along2_runs A hc df n _ _ st hi (e1.1.trans hd) (by rw [e1.2.1]; simp; omega)
theorem along2_call (A : Along2 L fuel T P Q F) : ∀ d : Nat, CallOk2 L T P Q F (callM L fuel d)
  | 0 => fun m st fn arg df hs => hs.some A
  | d + 1 => fun m st fn arg df hs => by
    rw [callM]
    simp only
    have hs' := hs.start A
    have hb := along2_body A (along2_call A d) df (fuel + 1) (startM m fn arg st.head? df).1 (startM m fn arg st.head? df).2 st 0 hs' rfl rfl
    revert hb
    cases bodyM (callM L fuel d) L fuel (fuel + 1) (startM m fn arg st.head? df).1 (startM m fn arg st.head? df).2 st.head? 0 with
    | spent m2 => exact fun h => h
    | ok m2 x =>
      obtain ⟨f, par⟩ := x
      rintro ⟨a1, a2, a3, a4⟩
      simp only
      have hr := along2_runs A (along2_call A d) df f.runs.length m2 f (putHead par st) a1 a2 rfl
      revert hr
      cases runsM (callM L fuel d) f.runs.length m2 f with
      | spent m3 => exact fun h => h
      | ok m3 f3 =>
        rintro ⟨b1, b2⟩
        exact ⟨A.finish m3 f3 _ b1, b2, a3, a4⟩
end
end Go.Proofs.Ytobikkdnalnllaa
namespace Go.Proofs.Ytobikkdnalnllaa
open Go.RowKit SL
set_option linter.unusedVariables false
set_option linter.unusedSimpArgs false
structure SmG (fuel : Nat) (m : SM) : Prop where
  made : m.made ≤ fuel
  shared : n16 m.shared
  seen : m.seen.length ≤ m.made
structure SfG (L : List (List St)) (c : SF) : Prop where
  len : c.regs.length = 4
  regs : ∀ x ∈ c.regs, n16 x
  value : n16 c.value
  pa : n16 c.pa
  outer : n16 c.outer
  defers : ∀ x ∈ c.defers, FnOk L x.1 ∧ n16 x.2
  fn : FnOk L c.f
/-- How far a piece of a run grows: k more events than three for each step made; a deferred call counts for two. -/
structure Went (m : SM) (dn : Nat) (m' : SM) (dn' k : Nat) : Prop where
  le : m.made ≤ m'.made
  grow : m'.trace.length + 2 * dn' + 3 * m.made ≤ m.trace.length + 2 * dn + 3 * m'.made + k
theorem Went.refl (m : SM) (dn : Nat) : Went m dn m dn 0 := ⟨Nat.le_refl _, by omega⟩
theorem Went.trans {a b c : SM} {x y z k j : Nat} (h : Went a x b y k) (h' : Went b y c z j) : Went a x c z (k + j) := by
  have := h.le; have := h.grow; have := h'.le; have := h'.grow
  exact ⟨by omega, by omega⟩
theorem Went.more {a b : SM} {x y k j : Nat} (h : Went a x b y k) (hj : k ≤ j) : Went a x b y j := by
  have := h.le; have := h.grow
  exact ⟨by omega, by omega⟩
theorem Went.same {m m' : SM} (h1 : m'.made = m.made) (h2 : m'.trace = m.trace) (dn k : Nat) : Went m dn m' dn k := ⟨by omega, by rw [h1, h2]; omega⟩
theorem SfG.set {L : List (List St)} {c : SF} (h : SfG L c) (a : Int) {v : Int} (hv : n16 v) : SfG L { c with regs := regSet c.regs a v } :=
  ⟨by show (regSet c.regs a v).length = 4; rw [regSet_len']; exact h.len, regSet_ok h.regs a hv, h.value, h.pa, h.outer, h.defers, h.fn⟩
theorem n16_ws (n : Int) : n16 (w16s n) := by unfold n16 w16s; omega
theorem SmG.told {fuel : Nat} {m : SM} (h : SmG fuel m) (k f v : Int) : SmG fuel (tellS m k f v) := ⟨h.made, h.shared, h.seen⟩
theorem Went.told (m : SM) (k f v : Int) (dn : Nat) : Went m dn (tellS m k f v) dn 1 := ⟨Nat.le_refl _, by show (m.trace ++ _).length + _ + _ ≤ _; rw [List.length_append]; show _ + 1 + _ + _ ≤ _; have : (tellS m k f v).made = m.made := rfl; omega⟩
/-- A simple step. -/
theorem simple_went {L : List (List St)} {fuel : Nat} {m : SM} {c : SF} {s : St} (hs : StepOk L.length s) (hm : SmG fuel m) (hc : SfG L c) :
    SmG fuel (simpleS m c s).1 ∧ SfG L (simpleS m c s).2 ∧ Went m c.defers.length (simpleS m c s).1 (simpleS m c s).2.defers.length 1 := by
  have W0 := (Went.refl m c.defers.length).more (Nat.zero_le 1)
  obtain ⟨_, _, h1, h2, h5, h11, h3⟩ := hs
  unfold simpleS
  by_cases k1 : s.k = 1
  · rw [if_pos k1]; exact ⟨hm, hc.set _ (h1 k1).2.2, W0⟩
  rw [if_neg k1]
  by_cases k2 : s.k = 2
  · rw [if_pos k2]; exact ⟨hm, hc.set _ (n16_ws _), W0⟩
  rw [if_neg k2]
  by_cases k3 : s.k = 3
  · rw [if_pos k3]; exact ⟨hm.told _ _ _, hc, Went.told _ _ _ _ _⟩
  rw [if_neg k3]
  by_cases k9 : s.k = 9
  · rw [if_pos k9]
    refine ⟨hm, ?_, ?_⟩
    · show SfG L (if c.df = true then _ else _)
      split
      · exact ⟨hc.len, hc.regs, hc.value, hc.pa, regAt_ok hc.regs _, hc.defers, hc.fn⟩
      · exact hc
    · show Went m c.defers.length m (if c.df = true then _ else _ : SF).defers.length 1
      split <;> exact W0
  rw [if_neg k9]
  by_cases k12 : s.k = 12
  · rw [if_pos k12]; exact ⟨⟨hm.made, regAt_ok hc.regs _, hm.seen⟩, hc, Went.same (m := m) (m' := { m with shared := regAt c.regs s.a }) rfl rfl _ _⟩
  rw [if_neg k12]
  by_cases k13 : s.k = 13
  · rw [if_pos k13]; exact ⟨hm, hc.set _ hm.shared, W0⟩
  rw [if_neg k13]
  by_cases k7 : s.k = 7
  · rw [if_pos k7]
    split
    · refine ⟨hm.told _ _ _, ?_, Went.told _ _ _ _ _⟩
      have := (hc.set s.a hc.pa).set 3 n16_one
      exact ⟨this.len, this.regs, this.value, this.pa, this.outer, this.defers, this.fn⟩
    · exact ⟨hm, (hc.set s.a n16_zero).set 3 n16_zero, W0⟩
  rw [if_neg k7]
  exact ⟨hm, hc, W0⟩
/-- What a call keeps to. -/
def CallG (L : List (List St)) (fuel : Nat) (call : CallS) : Prop := ∀ m c, SmG fuel m → SfG L c → SmG fuel (call m c).1 ∧ SfG L (call m c).2 ∧ Went m c.defers.length (call m c).1 0 2
theorem fresh_G {L : List (List St)} {c : SF} {s : St} (hs : StepOk L.length s) (k4 : s.k = 4) (hc : SfG L c) : SfG L (freshIn c s) := by
  obtain ⟨_, _, h1, h2, h5, h11, h3⟩ := hs
  have := h5 (.inl k4)
  refine ⟨rfl, fun x hx => ?_, n16_zero, n16_zero, n16_zero, fun x hx => (by cases hx), ⟨this.1, this.2.1⟩⟩
  have e : (freshIn c s).regs = [regAt c.regs s.b, 0, 0, 0] := rfl
  rw [e] at hx
  simp only [List.mem_cons, List.not_mem_nil, or_false] at hx
  rcases hx with rfl | rfl | rfl | rfl
  · exact regAt_ok hc.regs _
  all_goals exact n16_zero
/-- Any step. -/
theorem make_went {L : List (List St)} {fuel : Nat} {call : CallS} {m : SM} {c : SF} {s : St} {at_ : Int} (ih : CallG L fuel call) (h0 : 0 ≤ at_) (hs : StepOk L.length s) (hm : SmG fuel m) (hc : SfG L c) :
    SmG fuel (makeS call m c at_ s).1 ∧ SfG L (makeS call m c at_ s).2.1 ∧ Went m c.defers.length (makeS call m c at_ s).1 (makeS call m c at_ s).2.1.defers.length 3 ∧ (-1 ≤ (makeS call m c at_ s).2.2 ∧ ((makeS call m c at_ s).2.2 ≤ at_ + 1 ∨ (makeS call m c at_ s).2.2 ≤ 8)) := by
  have W0 := (Went.refl m c.defers.length).more (Nat.zero_le 3)
  have hs' := hs
  obtain ⟨_, _, h1, h2, h5, h11, h3⟩ := hs'
  unfold makeS
  by_cases k4 : s.k = 4
  · rw [if_pos k4]
    unfold innerS
    have H := ih m (freshIn c s) hm (fresh_G hs k4 hc)
    generalize call m (freshIn c s) = q at H
    obtain ⟨g1, g2, g3⟩ := H
    have W : ∀ k, 2 ≤ k → Went m c.defers.length q.1 c.defers.length k := fun k hk => by
      have a := g3.le; have b := g3.grow
      have e : (freshIn c s).defers.length = 0 := rfl
      rw [e] at b
      exact ⟨a, by omega⟩
    unfold innerR
    split
    · exact ⟨g1, hc.set _ (regAt_ok g2.regs _), W 3 (by omega), ⟨by show -1 ≤ at_ + 1; omega, .inl (Int.le_refl _)⟩⟩
    · simp only
      refine ⟨g1, ?_, ?_, ⟨Int.le_refl _, .inr (by show (-1 : Int) ≤ 8; omega)⟩⟩
      · split
        · exact ⟨hc.len, hc.regs, g2.value, hc.pa, hc.outer, hc.defers, hc.fn⟩
        · split <;> exact ⟨hc.len, hc.regs, hc.value, hc.pa, hc.outer, hc.defers, hc.fn⟩
      · split
        · exact W 3 (by omega)
        · split <;> exact W 3 (by omega)
  rw [if_neg k4]
  by_cases k5 : s.k = 5
  · rw [if_pos k5]
    have := h5 (.inr k5)
    refine ⟨hm.told _ _ _, ⟨hc.len, hc.regs, hc.value, hc.pa, hc.outer, fun x hx => ?_, hc.fn⟩, ?_, ⟨by show -1 ≤ at_ + 1; omega, .inl (Int.le_refl _)⟩⟩
    · rcases List.mem_append.1 hx with hx | hx
      · exact hc.defers x hx
      · rw [List.mem_singleton.1 hx]; exact ⟨⟨this.1, this.2.1⟩, regAt_ok hc.regs _⟩
    · have a := Went.told m 2 s.a (regAt c.regs s.b) c.defers.length
      have b := a.grow
      have e : (c.defers ++ [(s.a, regAt c.regs s.b)]).length = c.defers.length + 1 := by rw [List.length_append]; rfl
      refine ⟨a.le, ?_⟩
      show (tellS m 2 s.a (regAt c.regs s.b)).trace.length + 2 * (c.defers ++ [(s.a, regAt c.regs s.b)]).length + 3 * m.made ≤ m.trace.length + 2 * c.defers.length + 3 * (tellS m 2 s.a (regAt c.regs s.b)).made + 3
      omega
  rw [if_neg k5]
  by_cases k6 : s.k = 6
  · rw [if_pos k6]
    exact ⟨hm.told _ _ _, ⟨hc.len, hc.regs, regAt_ok hc.regs _, hc.pa, hc.outer, hc.defers, hc.fn⟩, (Went.told m 5 c.f (regAt c.regs s.a) c.defers.length).more (by omega), ⟨Int.le_refl _, .inr (by show (-1 : Int) ≤ 8; omega)⟩⟩
  rw [if_neg k6]
  by_cases k8 : s.k = 8
  · rw [if_pos k8]; exact ⟨hm, hc.set _ (regAt_ok hc.regs _), W0, ⟨Int.le_refl _, .inr (by show (-1 : Int) ≤ 8; omega)⟩⟩
  rw [if_neg k8]
  by_cases k10 : s.k = 10
  · rw [if_pos k10]; exact ⟨hm, ⟨hc.len, hc.regs, hc.value, hc.pa, hc.outer, hc.defers, hc.fn⟩, W0, ⟨Int.le_refl _, .inr (by show (-1 : Int) ≤ 8; omega)⟩⟩
  rw [if_neg k10]
  by_cases k11 : s.k = 11
  · rw [if_pos k11]
    refine ⟨hm, hc, W0, ?_⟩
    have := h11 k11
    simp only
    split
    · exact ⟨by omega, .inr (by omega)⟩
    · exact ⟨by omega, .inl (Int.le_refl _)⟩
  rw [if_neg k11]
  have H := simple_went hs hm hc
  exact ⟨H.1, H.2.1, H.2.2.more (by omega), ⟨by show -1 ≤ at_ + 1; omega, .inl (Int.le_refl _)⟩⟩
/-- A step that is counted. -/
theorem SmG.made1 {fuel : Nat} {m : SM} (h : SmG fuel m) (hne : m.made ≠ fuel) (x : Int × Int) : SmG fuel { m with made := m.made + 1, seen := m.seen ++ [x] } :=
  ⟨by have := h.made; show m.made + 1 ≤ fuel; omega, h.shared, by have := h.seen; show (m.seen ++ [x]).length ≤ m.made + 1; rw [List.length_append]; show _ + 1 ≤ _; omega⟩
theorem Went.made1 (m : SM) (x : Int × Int) {m' : SM} {d d' : Nat} (h : Went { m with made := m.made + 1, seen := m.seen ++ [x] } d m' d' 3) : Went m d m' d' 0 ∧ m.made + 1 ≤ m'.made := by
  have a := h.le; have b := h.grow
  simp only at a b
  exact ⟨⟨by omega, by omega⟩, a⟩
theorem loop_went {L : List (List St)} (hL : ProgOk L) {fuel : Nat} {call : CallS} (ih : CallG L fuel call) : ∀ (n : Nat) (m : SM) (c : SF) (at_ : Int), SmG fuel m → SfG L c →
    SmG fuel (loopS call L fuel n m c at_).1 ∧ SfG L (loopS call L fuel n m c at_).2 ∧ Went m c.defers.length (loopS call L fuel n m c at_).1 (loopS call L fuel n m c at_).2.defers.length 0
  | 0, m, c, at_, hm, hc => ⟨hm, hc, .refl _ _⟩
  | n + 1, m, c, at_, hm, hc => by
    rw [loopS]
    by_cases h0 : at_ < 0
    · rw [if_pos h0]; exact ⟨hm, hc, .refl _ _⟩
    rw [if_neg h0]
    cases hs : (bodyOf L c.f)[at_.toNat]? with
    | none => exact ⟨hm, hc, .refl _ _⟩
    | some s =>
      simp only
      by_cases hf : m.made = fuel
      · rw [if_pos hf]; exact ⟨⟨hm.made, hm.shared, hm.seen⟩, hc, Went.same (m := m) (m' := { m with spent := true }) rfl rfl _ _⟩
      rw [if_neg hf]
      obtain ⟨g1, g2, g3, g4⟩ := make_went (at_ := at_) (call := call) ih (by omega) (hL _ _ (List.mem_of_getElem? hs)) (hm.made1 hf (c.f, at_)) hc
      generalize makeS call { m with made := m.made + 1, seen := m.seen ++ [(c.f, at_)] } c at_ s = q at g1 g2 g3 g4
      have g5 := (Went.made1 m _ g3).1
      split
      · exact ⟨g1, g2, g5⟩
      · obtain ⟨e1, e2, e3⟩ := loop_went hL ih n q.1 q.2.1 q.2.2 g1 g2
        exact ⟨e1, e2, g5.trans e3⟩
def freshLast (c : SF) : SF :=
  ⟨(c.defers.getD (c.defers.length - 1) (0, 0)).1, c.depth + 1, [(c.defers.getD (c.defers.length - 1) (0, 0)).2, 0, 0, 0], [], 0, 0, false, true, c.kind == 2, if c.kind = 2 then c.value else 0, false, regAt c.regs 1⟩
theorem freshLast_G {L : List (List St)} {c : SF} (hc : SfG L c) (hd : 0 < c.defers.length) : SfG L (freshLast c) := by
  obtain ⟨x, hx⟩ : ∃ x, c.defers[c.defers.length - 1]? = some x := ⟨c.defers[c.defers.length - 1]'(by omega), by simp⟩
  have ex : c.defers.getD (c.defers.length - 1) (0, 0) = x := by rw [List.getD_eq_getElem?_getD, hx]; rfl
  have hx' := hc.defers x (List.mem_of_getElem? hx)
  unfold freshLast
  rw [ex]
  refine ⟨rfl, fun y hy => ?_, n16_zero, ?_, regAt_ok hc.regs _, fun x hx => (by cases hx), hx'.1⟩
  · simp only [List.mem_cons, List.not_mem_nil, or_false] at hy
    rcases hy with rfl | rfl | rfl | rfl
    · exact hx'.2
    all_goals exact n16_zero
  · show n16 (if c.kind = 2 then c.value else 0)
    split
    · exact hc.value
    · exact n16_zero
theorem last_went {L : List (List St)} {fuel : Nat} {call : CallS} (ih : CallG L fuel call) {m : SM} {c : SF} (hd : 0 < c.defers.length) (hm : SmG fuel m) (hc : SfG L c) :
    SmG fuel (lastS call m c).1 ∧ SfG L (lastS call m c).2 ∧ Went m c.defers.length (lastS call m c).1 (lastS call m c).2.defers.length 0 ∧ (lastS call m c).2.defers.length + 1 = c.defers.length := by
  have H := ih m (freshLast c) hm (freshLast_G hc hd)
  unfold lastS
  simp only
  unfold freshLast at H
  simp only at H
  generalize call m _ = q at H
  obtain ⟨g1, g2, g3⟩ := H
  have et : (c.defers.take (c.defers.length - 1)).length = c.defers.length - 1 := by rw [List.length_take]; omega
  have hd1 : ∀ x ∈ c.defers.take (c.defers.length - 1), FnOk L x.1 ∧ n16 x.2 := fun x hx => hc.defers x (List.mem_of_mem_take hx)
  have W : Went m c.defers.length q.1 (c.defers.take (c.defers.length - 1)).length 0 := by
    have a := g3.le; have b := g3.grow
    simp only [List.length_nil] at b
    exact ⟨a, by omega⟩
  have hr : ∀ v x, n16 v → n16 x → SfG L { c with defers := c.defers.take (c.defers.length - 1), regs := regSet c.regs 1 v, value := x } := fun v x h h' => by
    have := hc.set 1 h
    exact ⟨this.len, this.regs, h', this.pa, this.outer, hd1, this.fn⟩
  split
  · exact ⟨g1, ⟨hc.len, hc.regs, hc.value, hc.pa, hc.outer, hd1, hc.fn⟩, W, by show (c.defers.take _).length + 1 = _; omega⟩
  · have a := hr q.2.outer c.value g2.outer hc.value
    have b := hr q.2.outer q.2.value g2.outer g2.value
    refine ⟨g1, ?_, ?_, ?_⟩
    · repeat' split
      all_goals first | exact ⟨a.len, a.regs, a.value, a.pa, a.outer, a.defers, a.fn⟩ | exact ⟨b.len, b.regs, b.value, b.pa, b.outer, b.defers, b.fn⟩
    · repeat' split
      all_goals exact W
    · repeat' split
      all_goals (show (c.defers.take _).length + 1 = _; omega)
theorem rest_went {L : List (List St)} {fuel : Nat} {call : CallS} (ih : CallG L fuel call) : ∀ (n : Nat) (m : SM) (c : SF), c.defers.length = n → SmG fuel m → SfG L c →
    SmG fuel (restS call n m c).1 ∧ SfG L (restS call n m c).2 ∧ Went m c.defers.length (restS call n m c).1 (restS call n m c).2.defers.length 0
  | 0, m, c, hn, hm, hc => ⟨hm, hc, .refl _ _⟩
  | n + 1, m, c, hn, hm, hc => by
    rw [restS]
    obtain ⟨g1, g2, g3, g4⟩ := last_went ih (by omega) hm hc
    generalize lastS call m c = q at g1 g2 g3 g4
    show SmG fuel (if q.1.spent = true then q else restS call n q.1 q.2).1 ∧ SfG L (if q.1.spent = true then q else restS call n q.1 q.2).2 ∧ Went m c.defers.length (if q.1.spent = true then q else restS call n q.1 q.2).1 (if q.1.spent = true then q else restS call n q.1 q.2).2.defers.length 0
    split
    · exact ⟨g1, g2, g3⟩
    · obtain ⟨e1, e2, e3⟩ := rest_went ih n q.1 q.2 (by omega) g1 g2
      exact ⟨e1, e2, g3.trans e3⟩
theorem end_went {fuel : Nat} {m : SM} {c : SF} (hm : SmG fuel m) (d : Nat) : SmG fuel (endS m c) ∧ Went m d (endS m c) d 1 := by
  unfold endS
  repeat' split
  all_goals first | exact ⟨hm.told _ _ _, Went.told _ _ _ _ _⟩ | exact ⟨hm, (Went.refl _ _).more (by omega)⟩
theorem Went.drop {a b : SM} {x y k : Nat} (h : Went a x b y k) : Went a x b 0 k := by
  have := h.le; have := h.grow
  exact ⟨by omega, by omega⟩
def startS (m : SM) (c : SF) : SM := tellS { m with deep := max m.deep c.depth } (if c.df then 3 else 1) c.f (regAt c.regs 0)
theorem start_went {fuel : Nat} {m : SM} {c : SF} (hm : SmG fuel m) (d : Nat) : SmG fuel (startS m c) ∧ Went m d (startS m c) d 1 := by
  refine ⟨⟨hm.made, hm.shared, hm.seen⟩, ⟨Nat.le_refl _, ?_⟩⟩
  show (m.trace ++ _).length + _ + 3 * m.made ≤ _
  rw [List.length_append]
  show _ + 1 + _ + 3 * m.made ≤ m.trace.length + 2 * d + 3 * m.made + 1
  omega
/-- Behind the body of a call. -/
def tailS (call : CallS) (r : SM × SF) : SM × SF :=
  if r.1.spent then r
  else
    let q := restS call r.2.defers.length r.1 r.2
    if q.1.spent then q else (endS q.1 q.2, q.2)
theorem callS_eq (L : List (List St)) (fuel d : Nat) (m : SM) (c : SF) : callS L fuel (d + 1) m c = tailS (callS L fuel d) (loopS (callS L fuel d) L fuel (fuel + 1) (startS m c) { c with kind := 1 } 0) := rfl
theorem tail_went {L : List (List St)} {fuel : Nat} {call : CallS} (ih : CallG L fuel call) {r : SM × SF} (g1 : SmG fuel r.1) (g2 : SfG L r.2) :
    SmG fuel (tailS call r).1 ∧ SfG L (tailS call r).2 ∧ Went r.1 r.2.defers.length (tailS call r).1 0 1 := by
  unfold tailS
  split
  · exact ⟨g1, g2, (Went.refl _ _).drop.more (by omega)⟩
  · obtain ⟨e1, e2, e3⟩ := rest_went ih r.2.defers.length r.1 r.2 rfl g1 g2
    generalize restS call r.2.defers.length r.1 r.2 = q at e1 e2 e3
    simp only
    split
    · exact ⟨e1, e2, e3.drop.more (by omega)⟩
    · obtain ⟨f1, f2⟩ := end_went (c := q.2) e1 q.2.defers.length
      exact ⟨f1, e2, (e3.trans f2).drop.more (by omega)⟩
theorem call_went {L : List (List St)} (hL : ProgOk L) (fuel : Nat) : ∀ d : Nat, CallG L fuel (callS L fuel d)
  | 0 => fun m c hm hc => ⟨⟨hm.made, hm.shared, hm.seen⟩, hc, (Went.same (m := m) (m' := { m with spent := true }) rfl rfl c.defers.length 2).drop⟩
  | d + 1 => fun m c hm hc => by
    rw [callS_eq]
    have hc1 : SfG L { c with kind := 1 } := ⟨hc.len, hc.regs, hc.value, hc.pa, hc.outer, hc.defers, hc.fn⟩
    obtain ⟨s1, s2⟩ := start_went (c := c) hm c.defers.length
    obtain ⟨g1, g2, g3⟩ := loop_went hL (call_went hL fuel d) (fuel + 1) (startS m c) { c with kind := 1 } 0 s1 hc1
    generalize loopS (callS L fuel d) L fuel (fuel + 1) (startS m c) { c with kind := 1 } 0 = r at g1 g2 g3
    obtain ⟨e1, e2, e3⟩ := tail_went (call_went hL fuel d) g1 g2
    exact ⟨e1, e2, ((s2.trans g3).trans e3).more (by omega)⟩
end Go.Proofs.Ytobikkdnalnllaa
