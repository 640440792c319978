/- Plain data and functions of flat programs, as the program has them: no program in sight. -/
namespace Go.Proofs.YthihoafemahgmaaDoor.Mx
inductive Ex where
  | mk (op : ByteArray) (n : Int) (s : ByteArray) (l : List Ex)
def Ex.op : Ex → ByteArray | .mk o _ _ _ => o
def Ex.n : Ex → Int | .mk _ n _ _ => n
def Ex.s : Ex → ByteArray | .mk _ _ s _ => s
def Ex.l : Ex → List Ex | .mk _ _ _ l => l
theorem Ex.ind {P : Ex → Prop} (h : ∀ o n s l, (∀ e ∈ l, P e) → P (.mk o n s l)) : ∀ e, P e := by
  intro e
  refine Ex.rec (motive_1 := P) (motive_2 := fun l => ∀ e ∈ l, P e) h ?_ ?_ e
  · intro e he; cases he
  · intro a l ha hl e he
    rcases List.mem_cons.1 he with rfl | he
    · exact ha
    · exact hl e he
structure Vr where
  name : ByteArray
  kind : Int
structure Fl where
  name : ByteArray
  kind : Int
  e : Ex
structure Pr where
  ins : List Vr
  outs : List ByteArray
  fl : List Fl
  as : List Ex
  cs : List Ex
abbrev oInt : ByteArray := ⟨#[105, 110, 116]⟩
abbrev oTrue : ByteArray := ⟨#[116, 114, 117, 101]⟩
abbrev oFalse : ByteArray := ⟨#[102, 97, 108, 115, 101]⟩
abbrev oName : ByteArray := ⟨#[110, 97, 109, 101]⟩
abbrev oNot : ByteArray := ⟨#[110, 111, 116]⟩
abbrev oNeg : ByteArray := ⟨#[110, 101, 103]⟩
abbrev oPre : ByteArray := ⟨#[112, 114, 101]⟩
abbrev oIf : ByteArray := ⟨#[105, 102]⟩
abbrev oCall : ByteArray := ⟨#[99, 97, 108, 108]⟩
abbrev oArrow : ByteArray := ⟨#[45, 62]⟩
abbrev oFby : ByteArray := ⟨#[102, 98, 121]⟩
abbrev oOr : ByteArray := ⟨#[111, 114]⟩
abbrev oXor : ByteArray := ⟨#[120, 111, 114]⟩
abbrev oAnd : ByteArray := ⟨#[97, 110, 100]⟩
abbrev oEq : ByteArray := ⟨#[61]⟩
abbrev oNe : ByteArray := ⟨#[60, 62]⟩
abbrev oLt : ByteArray := ⟨#[60]⟩
abbrev oLe : ByteArray := ⟨#[60, 61]⟩
abbrev oGt : ByteArray := ⟨#[62]⟩
abbrev oGe : ByteArray := ⟨#[62, 61]⟩
abbrev oImp : ByteArray := ⟨#[61, 62]⟩
abbrev oAdd : ByteArray := ⟨#[43]⟩
abbrev oSub : ByteArray := ⟨#[45]⟩
abbrev oMul : ByteArray := ⟨#[42]⟩
abbrev oDiv : ByteArray := ⟨#[47]⟩
abbrev oMod : ByteArray := ⟨#[109, 111, 100]⟩
def levels : List (List ByteArray) := [[oOr, oXor], [oAnd], [oEq, oNe, oLt, oLe, oGt, oGe, oImp], [oAdd, oSub], [oMul, oDiv, oMod]]
def arity (o : ByteArray) : Option Int :=
  if o = oInt ∨ o = oTrue ∨ o = oFalse ∨ o = oName then some 0
  else if o = oNot ∨ o = oNeg ∨ o = oPre then some 1
  else if o = oIf then some 3
  else if o = oCall then some (-1)
  else if o = oArrow ∨ o = oFby then some 2
  else if levels.any fun l => l.contains o then some 2 else none
def form (e : Ex) : Bool :=
  match arity e.op with
  | none => false
  | some k => (decide (k < 0) || decide (k = e.l.length)) && (decide (e.n = 0) || decide (e.op = oInt) && decide (0 < e.n) && decide (e.n ≤ 127)) && (decide (e.s.size = 0) || decide (e.op = oName) || decide (e.op = oCall))
mutual
def Ex.parts : Ex → Nat
  | .mk _ _ _ l => 1 + Ex.partsL l
def Ex.partsL : List Ex → Nat
  | [] => 0
  | e :: l => e.parts + Ex.partsL l
end
mutual
def Ex.weight : Ex → Nat
  | .mk _ _ s l => 1 + s.size + Ex.weightL l
def Ex.weightL : List Ex → Nat
  | [] => 0
  | e :: l => e.weight + Ex.weightL l
end
mutual
def formAll (ks : ByteArray → Option Int) : Ex → Bool
  | .mk o n s l => form (.mk o n s l) && decide (o ≠ oCall) && (decide (o ≠ oName) || (ks s).isSome) && formAllL ks l
def formAllL (ks : ByteArray → Option Int) : List Ex → Bool
  | [] => true
  | e :: l => formAll ks e && formAllL ks l
end
def kindBy (o : ByteArray) (k : Int) (l : List Int) : Int :=
  let same := decide (0 < l.length) && decide (l.headD 0 = l.getLastD 0)
  if o = oInt then 2
  else if o = oTrue ∨ o = oFalse then 1
  else if o = oName then k
  else if o = oIf then (if l.getD 0 0 = 1 ∧ l.getD 1 0 = l.getD 2 0 then l.getD 1 0 else 0)
  else if o = oPre ∨ o = oArrow ∨ o = oFby then (if same then l.headD 0 else 0)
  else if o = oEq ∨ o = oNe then (if same then 1 else 0)
  else if o = oLt ∨ o = oLe ∨ o = oGt ∨ o = oGe then (if same && decide (l.headD 0 = 2) then 1 else 0)
  else if o = oNot ∨ o = oAnd ∨ o = oOr ∨ o = oXor ∨ o = oImp then (if same && decide (l.headD 0 = 1) then 1 else 0)
  else if same && decide (l.headD 0 = 2) then 2 else 0
mutual
def kindOf (ks : ByteArray → Option Int) : Ex → Int
  | .mk o _ s l => let r := kindsOf ks l; if r.contains 0 then 0 else kindBy o ((ks s).getD 0) r
def kindsOf (ks : ByteArray → Option Int) : List Ex → List Int
  | [] => []
  | e :: l => kindOf ks e :: kindsOf ks l
end
end Go.Proofs.YthihoafemahgmaaDoor.Mx
namespace Go.Proofs.YthihoafemahgmaaDoor.Mx
theorem bytes_lawful (a b : ByteArray) : (a == b) = true ↔ a = b := by
  obtain ⟨x⟩ := a
  obtain ⟨y⟩ := b
  constructor
  · intro h
    have e : x = y := by simpa using (show (x == y) = true from h)
    rw [e]
  · intro h
    cases h
    show (x == x) = true
    simp
instance : LawfulBEq ByteArray where
  eq_of_beq {a b} h := (bytes_lawful a b).1 h
  rfl {a} := (bytes_lawful a a).2 rfl
abbrev Env (α : Type) := ByteArray → Option α
def Env.none {α : Type} : Env α := fun _ => .none
def Env.set {α : Type} (m : Env α) (k : ByteArray) (v : α) : Env α := fun x => if x = k then some v else m x
def Pr.terms (p : Pr) : List Ex := p.fl.map (·.e) ++ p.as ++ p.cs
def Pr.vars (p : Pr) : List (ByteArray × Int) := p.ins.map (fun v => (v.name, v.kind)) ++ p.fl.map (fun f => (f.name, f.kind))
def Pr.kinds (p : Pr) : Env Int := p.vars.foldl (fun m x => m.set x.1 x.2) Env.none
def freshGo : Env Int → List (ByteArray × Int) → Option (Env Int)
  | m, [] => some m
  | m, x :: r => if (m x.1).isNone ∧ x.1.size ≠ 0 ∧ (x.2 = 1 ∨ x.2 = 2) then freshGo (m.set x.1 x.2) r else .none
def outsGo (fl : List ByteArray) : List ByteArray → List ByteArray → Bool
  | _, [] => true
  | seen, s :: r => fl.contains s && !seen.contains s && outsGo fl (seen ++ [s]) r
def kindsGo (ks : Env Int) : List Int → List Ex → Bool
  | _, [] => true
  | k :: r, e :: l => decide (kindOf ks e = k) && kindsGo ks r l
  | [], e :: l => decide (kindOf ks e = 1) && kindsGo ks [] l
def checkFlat (p : Pr) : Nat :=
  match freshGo Env.none p.vars with
  | .none => 3
  | some ks =>
    if !outsGo (p.fl.map (·.name)) [] p.outs then 3
    else if !formAllL ks p.terms then 3
    else if p.fl.length > 400 ∨ Ex.partsL p.terms > 4000 ∨ p.ins.length > 30 then 2
    else if !kindsGo ks (p.fl.map (·.kind)) p.terms then 5 else 0
mutual
def needs (at_ : Env Nat) : Ex → List Nat
  | .mk o _ s l => if o = oPre then [] else if o = oFby then needsH at_ l else (if o = oName then (at_ s).toList else []) ++ needsL at_ l
def needsH (at_ : Env Nat) : List Ex → List Nat
  | [] => []
  | e :: _ => needs at_ e
def needsL (at_ : Env Nat) : List Ex → List Nat
  | [] => []
  | e :: l => needs at_ e ++ needsL at_ l
end
def atFrom : Nat → Env Nat → List Fl → Env Nat
  | _, m, [] => m
  | i, m, f :: l => atFrom (i + 1) (m.set f.name i) l
def Pr.atOf (p : Pr) : Env Nat := atFrom 0 Env.none p.fl
def Pr.graph (p : Pr) : List (List Nat) := p.fl.map fun f => needs p.atOf f.e
def cycN (g : List (List Nat)) (from_ : Nat) : Nat → List Nat → List Nat → Bool
  | 0, _, _ => false
  | _ + 1, _, [] => false
  | f + 1, seen, k :: r =>
    if k = from_ then true
    else if seen.contains k then cycN g from_ f seen r
    else cycN g from_ f (k :: seen) ((g.getD k []).reverse ++ r)
def cycFuel (g : List (List Nat)) : Nat := 1 + 2 * (g.map fun l => l.length + 1).sum
def cyc (g : List (List Nat)) (i : Nat) : Bool := cycN g i (cycFuel g) [] (g.getD i []).reverse
def pick (g : List (List Nat)) (done : List Nat) : Nat := g.zipIdx.findIdx fun x => !done.contains x.2 && x.1.all done.contains
def sortN (g : List (List Nat)) : Nat → List Nat → List Nat
  | 0, out => out
  | f + 1, out => sortN g f (out ++ [pick g out])
def orderM (p : Pr) : Except (Nat × Int) (List Nat) :=
  if checkFlat p ≠ 0 then .error (checkFlat p, -1)
  else match (List.range p.graph.length).find? (cyc p.graph) with
    | some i => .error (6, i)
    | .none => .ok (sortN p.graph p.graph.length [])
mutual
def lateOf (late : ByteArray → Int) : Ex → Int
  | .mk o _ s l =>
    let r := latesOf late l
    if o = oName then late s
    else if o = oPre then min 2 (r.getD 0 0 + 1)
    else if o = oArrow ∨ o = oFby then
      (let b := if o = oFby then min 2 (r.getD 1 0 + 1) else r.getD 1 0
       if b = 2 then 2 else r.getD 0 0)
    else r.foldl max 0
def latesOf (late : ByteArray → Int) : List Ex → List Int
  | [] => []
  | e :: l => lateOf late e :: latesOf late l
end
def setL (late : ByteArray → Int) (k : ByteArray) (n : Int) : ByteArray → Int := fun x => if x = k then n else late x
def namesRound : List Fl → (ByteArray → Int) → Bool → (ByteArray → Int) × Bool
  | [], late, more => (late, more)
  | f :: l, late, more => if late f.name < lateOf late f.e then namesRound l (setL late f.name (lateOf late f.e)) true else namesRound l late more
def namesN (l : List Fl) : Nat → (ByteArray → Int) → ByteArray → Int
  | 0, late => late
  | f + 1, late => if (namesRound l late false).2 then namesN l f (namesRound l late false).1 else (namesRound l late false).1
def namesM (p : Pr) : ByteArray → Int := namesN p.fl (2 * p.fl.length + 1) fun _ => 0
def lateM (p : Pr) : Except (Nat × Int) (List Int) :=
  match orderM p with
  | .error e => .error e
  | .ok _ => .ok (p.fl.map fun f => namesM p f.name)
def checkM (p : Pr) : Nat × Int :=
  match lateM p with
  | .error e => e
  | .ok l =>
    match l.zipIdx.find? fun x => decide (x.1 = 2) || decide (x.1 = 1) && p.outs.contains ((p.fl.map (·.name)).getD x.2 ⟨#[]⟩) with
    | some x => (7, x.2)
    | .none => if (p.as ++ p.cs).any fun e => decide (0 < lateOf (namesM p) e) then (7, -1) else (0, -1)
end Go.Proofs.YthihoafemahgmaaDoor.Mx
namespace Go.Proofs.YthihoafemahgmaaDoor.Mx
def freshB (m : Env Int) (s : ByteArray) (k : Int) : Bool := (m s).isNone && decide (s.size ≠ 0) && (decide (k = 1) || decide (k = 2))
theorem freshGo_append (l r : List (ByteArray × Int)) : ∀ m, freshGo m (l ++ r) = (freshGo m l).bind fun m' => freshGo m' r := by
  induction l with
  | nil => intro m; rfl
  | cons x l ih =>
    intro m
    simp only [List.cons_append, freshGo]
    split
    · exact ih _
    · rfl
theorem fresh_step {l : List (ByteArray × Int)} {k : Nat} (h : k < l.length) {m : Env Int} (hm : freshGo Env.none (l.take k) = some m) :
    freshGo Env.none (l.take (k + 1)) = if freshB m l[k].1 l[k].2 then some (m.set l[k].1 l[k].2) else .none := by
  rw [List.take_succ_eq_append_getElem h, freshGo_append, hm]
  simp only [Option.bind_some, freshGo]
  have hc : freshB m l[k].1 l[k].2 = true ↔ ((m l[k].1).isNone = true ∧ l[k].1.size ≠ 0 ∧ (l[k].2 = 1 ∨ l[k].2 = 2)) := by
    unfold freshB
    simp only [Bool.and_eq_true, decide_eq_true_eq, Bool.or_eq_true]
    exact ⟨fun h => ⟨h.1.1, h.1.2, h.2⟩, fun h => ⟨⟨h.1, h.2.1⟩, h.2.2⟩⟩
  by_cases h1 : freshB m l[k].1 l[k].2 = true
  · rw [if_pos (hc.1 h1), if_pos h1]
  · rw [if_neg (fun e => h1 (hc.2 e)), if_neg h1]
theorem fresh_none {l : List (ByteArray × Int)} {k : Nat} (hm : freshGo Env.none (l.take k) = .none) : freshGo Env.none l = .none := by
  rw [← List.take_append_drop k l, freshGo_append, hm]; rfl
def setL1 (l : List ByteArray) : Env Bool := fun s => if l.contains s then some true else .none
theorem setL1_nil : setL1 [] = Env.none := by funext s; simp [setL1, Env.none]
theorem setL1_snoc (l : List ByteArray) (s : ByteArray) : (setL1 l).set s true = setL1 (l ++ [s]) := by
  funext x
  unfold setL1 Env.set
  by_cases h : x = s
  · subst h; simp
  · simp [h]
theorem setL1_get (l : List ByteArray) (s : ByteArray) : (setL1 l s).getD false = l.contains s := by
  unfold setL1
  cases l.contains s <;> rfl
theorem outs_step (fl : List ByteArray) : ∀ (outs seen : List ByteArray) (k : Nat) (h : k < outs.length), outsGo fl (seen ++ outs.take k) (outs.drop k) = (fl.contains outs[k] && !(seen ++ outs.take k).contains outs[k] && outsGo fl (seen ++ outs.take (k + 1)) (outs.drop (k + 1))) := by
  intro outs seen k h
  rw [List.drop_eq_getElem_cons h]
  simp only [outsGo]
  rw [List.take_succ_eq_append_getElem h, List.append_assoc]
theorem formAllL_get (ks : Env Int) : ∀ (l : List Ex), formAllL ks l = true ↔ ∀ i (h : i < l.length), formAll ks l[i] = true
  | [] => by simp [formAllL]
  | e :: l => by
    simp only [formAllL, Bool.and_eq_true]
    rw [formAllL_get ks l]
    constructor
    · rintro ⟨h1, h2⟩ i hi
      cases i with
      | zero => exact h1
      | succ i => exact h2 i (by simpa using hi)
    · intro h
      exact ⟨h 0 (by simp), fun i hi => h (i + 1) (by simpa using hi)⟩
theorem kindsGo_get (ks : Env Int) : ∀ (K : List Int) (l : List Ex), kindsGo ks K l = true ↔ ∀ i (h : i < l.length), kindOf ks l[i] = K.getD i 1
  | K, [] => by cases K <;> simp [kindsGo]
  | [], e :: l => by
    simp only [kindsGo, Bool.and_eq_true, decide_eq_true_eq]
    rw [kindsGo_get ks [] l]
    constructor
    · rintro ⟨h1, h2⟩ i hi
      cases i with
      | zero => exact h1
      | succ i => exact h2 i (by simpa using hi)
    · intro h
      exact ⟨h 0 (by simp), fun i hi => h (i + 1) (by simpa using hi)⟩
  | k :: K, e :: l => by
    simp only [kindsGo, Bool.and_eq_true, decide_eq_true_eq]
    rw [kindsGo_get ks K l]
    constructor
    · rintro ⟨h1, h2⟩ i hi
      cases i with
      | zero => exact h1
      | succ i => exact h2 i (by simpa using hi)
    · intro h
      exact ⟨h 0 (by simp), fun i hi => h (i + 1) (by simpa using hi)⟩
theorem vars_len (p : Pr) : p.vars.length = p.ins.length + p.fl.length := by simp [Pr.vars]
theorem vars_in (p : Pr) (k : Nat) (h : k < p.ins.length) (h' : k < p.vars.length) : p.vars[k] = (p.ins[k].name, p.ins[k].kind) := by
  simp only [Pr.vars]
  rw [List.getElem_append_left (by simpa using h)]
  simp
theorem vars_fl (p : Pr) (k : Nat) (h : k < p.fl.length) (h' : p.ins.length + k < p.vars.length) : p.vars[p.ins.length + k] = (p.fl[k].name, p.fl[k].kind) := by
  simp only [Pr.vars]
  rw [List.getElem_append_right (by simp)]
  simp
theorem check_vars {p : Pr} (h : freshGo Env.none p.vars = .none) : checkFlat p = 3 := by unfold checkFlat; rw [h]
theorem check_outs {p : Pr} {ks : Env Int} (h : freshGo Env.none p.vars = some ks) (h1 : outsGo (p.fl.map (·.name)) [] p.outs = false) : checkFlat p = 3 := by unfold checkFlat; rw [h]; simp [h1]
theorem check_form {p : Pr} {ks : Env Int} (h : freshGo Env.none p.vars = some ks) (h1 : outsGo (p.fl.map (·.name)) [] p.outs = true) (h2 : formAllL ks p.terms = false) : checkFlat p = 3 := by unfold checkFlat; rw [h]; simp [h1, h2]
theorem check_big {p : Pr} {ks : Env Int} (h : freshGo Env.none p.vars = some ks) (h1 : outsGo (p.fl.map (·.name)) [] p.outs = true) (h2 : formAllL ks p.terms = true) (h3 : p.fl.length > 400 ∨ Ex.partsL p.terms > 4000 ∨ p.ins.length > 30) : checkFlat p = 2 := by
  unfold checkFlat; rw [h]; simp [h1, h2]; intro a b; omega
theorem check_kind {p : Pr} {ks : Env Int} (h : freshGo Env.none p.vars = some ks) (h1 : outsGo (p.fl.map (·.name)) [] p.outs = true) (h2 : formAllL ks p.terms = true) (h3 : ¬ (p.fl.length > 400 ∨ Ex.partsL p.terms > 4000 ∨ p.ins.length > 30)) (h4 : kindsGo ks (p.fl.map (·.kind)) p.terms = false) : checkFlat p = 5 := by
  unfold checkFlat; rw [h]; simp only [h1, h2, h4, Bool.not_true, Bool.false_eq_true, if_false, Bool.not_false, if_true]; rw [if_neg h3]
theorem check_ok {p : Pr} {ks : Env Int} (h : freshGo Env.none p.vars = some ks) (h1 : outsGo (p.fl.map (·.name)) [] p.outs = true) (h2 : formAllL ks p.terms = true) (h3 : ¬ (p.fl.length > 400 ∨ Ex.partsL p.terms > 4000 ∨ p.ins.length > 30)) (h4 : kindsGo ks (p.fl.map (·.kind)) p.terms = true) : checkFlat p = 0 := by
  unfold checkFlat; rw [h]; simp only [h1, h2, h4, Bool.not_true, Bool.false_eq_true, if_false]; rw [if_neg h3]
end Go.Proofs.YthihoafemahgmaaDoor.Mx
namespace Go.Proofs.YthihoafemahgmaaDoor.Mx
def mu (late : ByteArray → Int) : List Fl → Nat
  | [] => 0
  | f :: l => (2 - late f.name).toNat + mu late l
theorem mu_le (late late' : ByteArray → Int) (h : ∀ s, late s ≤ late' s) : ∀ l, mu late' l ≤ mu late l
  | [] => Nat.le_refl _
  | f :: l => by
    have := mu_le late late' h l
    have := h f.name
    simp only [mu]; omega
theorem mu_lt (late late' : ByteArray → Int) (h : ∀ s, late s ≤ late' s) (hb : ∀ s, late' s ≤ 2) : ∀ (l : List Fl) (f : Fl), f ∈ l → late f.name < late' f.name → mu late' l < mu late l
  | [], _, hf, _ => by cases hf
  | x :: l, f, hf, hlt => by
    have h1 := mu_le late late' h l
    have h2 := h x.name
    have h3 := hb x.name
    simp only [mu]
    rcases List.mem_cons.1 hf with rfl | hf
    · omega
    · have := mu_lt late late' h hb l f hf hlt
      omega
theorem mu_zero : ∀ l : List Fl, mu (fun _ => 0) l = 2 * l.length
  | [] => rfl
  | f :: l => by simp only [mu, mu_zero l, List.length_cons]; omega
theorem namesRound_more (l : List Fl) : ∀ late, (namesRound l late true).2 = true := by
  induction l with
  | nil => intro late; rfl
  | cons f l ih => intro late; simp only [namesRound]; split <;> exact ih _
theorem namesN_step (l : List Fl) (f : Nat) (late : ByteArray → Int) : namesN l (f + 1) late = if (namesRound l late false).2 then namesN l f (namesRound l late false).1 else (namesRound l late false).1 := rfl
theorem drop_round {l : List Fl} {k : Nat} (h : k < l.length) (late : ByteArray → Int) (b : Bool) : namesRound (l.drop k) late b = if late l[k].name < lateOf late l[k].e then namesRound (l.drop (k + 1)) (setL late l[k].name (lateOf late l[k].e)) true else namesRound (l.drop (k + 1)) late b := by
  rw [List.drop_eq_getElem_cons h]; rfl
end Go.Proofs.YthihoafemahgmaaDoor.Mx
namespace Go.Proofs.YthihoafemahgmaaDoor.Mx
structure Vl where
  kind : Int
  n : Int
deriving DecidableEq
def vz : Vl := ⟨0, 0⟩
def tv (b : Bool) : Vl := ⟨1, if b then 1 else 0⟩
def around (n : Int) : Int := if 128 ≤ n % 256 then n % 256 - 256 else n % 256
def wv (n : Int) : Vl := ⟨2, around n⟩
def rightV (v : Vl) (k : Int) : Bool := decide (v.kind = k) && (if k = 1 then decide (v.n = 0) || decide (v.n = 1) else decide (k = 2) && decide (-128 ≤ v.n) && decide (v.n ≤ 127))
def isApp (o : ByteArray) (l : List Vl) : Nat :=
  match arity o with
  | .none => 3
  | some k =>
    if k < 1 ∨ k ≠ l.length ∨ o = oPre ∨ o = oArrow ∨ o = oFby then 3
    else if !(l.all fun v => rightV v v.kind) then 5
    else if kindBy o 0 (l.map (·.kind)) = 0 then 5 else 0
def appM (o : ByteArray) (l : List Vl) : Vl × Bool :=
  let a := l.getD 0 vz
  let b := l.getD 1 vz
  if o = oNot then (tv (decide (a.n = 0)), false)
  else if o = oNeg then (wv (-a.n), false)
  else if o = oIf then (if a.n = 1 then b else l.getD 2 vz, false)
  else if o = oEq then (tv (decide (a = b)), false)
  else if o = oNe then (tv (decide (a ≠ b)), false)
  else if o = oLt then (tv (decide (a.n < b.n)), false)
  else if o = oLe then (tv (decide (a.n ≤ b.n)), false)
  else if o = oGt then (tv (decide (b.n < a.n)), false)
  else if o = oGe then (tv (decide (b.n ≤ a.n)), false)
  else if o = oAnd then (tv (decide (a.n = 1) && decide (b.n = 1)), false)
  else if o = oOr then (tv (decide (a.n = 1) || decide (b.n = 1)), false)
  else if o = oXor then (tv (decide (a.n = 1) != decide (b.n = 1)), false)
  else if o = oImp then (tv (!decide (a.n = 1) || decide (b.n = 1)), false)
  else if (o = oDiv ∨ o = oMod) ∧ b.n = 0 then (vz, true)
  else if o = oAdd then (wv (a.n + b.n), false)
  else if o = oSub then (wv (a.n - b.n), false)
  else if o = oMul then (wv (a.n * b.n), false)
  else if o = oDiv then (wv (a.n.tdiv b.n), false)
  else (wv (a.n.tmod b.n), false)
end Go.Proofs.YthihoafemahgmaaDoor.Mx
