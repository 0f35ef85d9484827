/-
  No claim by itself: the evaluator: what a function's text means: the definitions. | the evaluator: each operation has one value, whatever follows it. | the evaluator: each operation has one value, by its kind. | the evaluator: operations that write have one outcome. | the evaluator: operations under guards; regions in the text's order. | the evaluator: what a text means is what it does. | the evaluator: drawn regions, the plain part: what stands before what, what the chosen order handed on. | the evaluator: drawn regions: what is known of each operation at each heap at which it may stand. | the evaluator: drawn regions: environments of what is done; new blocks that are named late. No condition.
-/
import Derived.Test.YtmddhlfjilkdfaaGreatDoorE3
import Derived.RegionTactic
namespace Go.Proofs.YtmddhlfjilkdfaaGreatDoor
set_option linter.unusedVariables false
set_option linter.unusedSimpArgs false

/-! The environment. -/
abbrev evA (env : List AV) (x : Operand) : AV := match x with
  | .tmp t => env.getD t .d
  | .const v => cva v
  | .func f => .f f [] []
  | .global _ => .d
noncomputable abbrev lsK (x : AV) (env : List AV) : Nat → (List AV → Bool) → Bool :=
  List.rec (motive := fun _ => Nat → (List AV → Bool) → Bool) (fun _ k => k []) (fun y t ih i k => Nat.casesOn (motive := fun _ => Bool) i (k (x :: t)) (fun j => ih j fun t' => k (y :: t'))) env
theorem lsK_eq (x : AV) : ∀ (env : List AV) (i : Nat) (k : List AV → Bool), lsK x env i k = k (env.set i x)
  | [], _, _ => rfl
  | _ :: _, 0, _ => rfl
  | y :: t, i + 1, k => (lsK_eq x t i fun t' => k (y :: t'))
noncomputable abbrev setO (dst : Option Nat) (x : AV) (env : List AV) (k : List AV → Bool) : Bool := match dst with
  | none => k env
  | some d => lsK x env d k
def setP (dst : Option Nat) (x : AV) (env : List AV) : List AV := match dst with
  | none => env
  | some d => env.set d x
theorem setO_eq (dst : Option Nat) (x : AV) (env : List AV) (k : List AV → Bool) : setO dst x env k = k (setP dst x env) := by
  cases dst with
  | none => rfl
  | some d => exact lsK_eq _ _ _ _

/-! Operations. -/
def isHeavy (P : Program) (op : Op) : Bool := match op with
  | .call c => match c.callee with
    | .builtin b => match b with
      | .len | .min | .max => false
      | _ => true
    | _ => true
  | .store .. | .alloc _ | .box .. | .buildSlice .. | .makeMap .. | .mapUpdate .. | .insert .. | .range .. | .next .. => true
  | .convert s t _ => isStr P s && (sliceOf P t).isSome
  | _ => false
noncomputable abbrev opD (P : Program) (T : Tbl) (M : List (Nat × Nat)) (op : Op) (f : Operand → AV) (h : Hp) (k : AV → Hp → Bool) : Bool := match isHeavy P op with
  | true => heavyD P T M op f h k
  | false => lightD P op f h fun y => k y h
/-- A guard: is it wanted? What is skipped leaves nothing. -/
noncomputable def gdK (x : AV) (want : Bool) (f : (AV → Hp → Bool) → Bool) (k : AV → Hp → Bool) (h : Hp) : Bool :=
  AV.casesOn (motive_1 := fun _ => Bool) x false (fun y => Bool.casesOn (motive := fun _ => Bool) (sameB y want) (k (.t []) h) (f k)) (fun _ _ => false) (fun _ _ => false) false (fun _ _ => false) false (fun _ _ _ _ => false) false (fun _ _ _ => false) false false (fun _ => false) false (fun _ => false) (fun _ => k (.t []) h) (fun _ _ => false) (fun _ => false)
noncomputable abbrev gopD (P : Program) (T : Tbl) (M : List (Nat × Nat)) (all : List Oper) (o : Oper) (env : List AV) (h : Hp) (k : AV → Hp → Bool) : Bool := match o.guard with
  | none => opD P T M o.op (evA env) h k
  | some (j, want) => match (all[j]?).bind (·.dst) with
    | none => false
    | some d => gdK (env.getD d .d) want (fun k' => opD P T M o.op (evA env) h k') k h
noncomputable abbrev opsD (P : Program) (T : Tbl) (M : List (Nat × Nat)) (all : List Oper) (l : List Oper) : List AV → Hp → (List AV → Hp → Bool) → Bool :=
  List.rec (motive := fun _ => List AV → Hp → (List AV → Hp → Bool) → Bool) (fun env h k => k env h)
    (fun o _ ih env h k => gopD P T M all o env h fun y h' => setO o.dst y env fun env' => ih env' h' k) l

/-! Drawn regions. -/
/-- Surely one value. -/
def kq (a b : IntKind) : Bool := Nat.beq (kN a) (kN b)
def leqS : List Nat → List Nat → Bool
  | [], [] => true
  | x :: l, y :: m => andB (Nat.beq x y) (leqS l m)
  | _, _ => false
def Q.eq : Q → Q → Bool
  | .e, .e => true
  | .d0 q, .d0 r => Q.eq q r
  | .d1 q, .d1 r => Q.eq q r
  | .d2 q, .d2 r => Q.eq q r
  | .d3 q, .d3 r => Q.eq q r
  | .d4 q, .d4 r => Q.eq q r
  | .d5 q, .d5 r => Q.eq q r
  | .d6 q, .d6 r => Q.eq q r
  | .d7 q, .d7 r => Q.eq q r
  | _, _ => false
def AC.eq : AC → AC → Bool
  | .k c, .k c' => Nat.beq c c'
  | .u d l, .u d' l' => andB (Nat.beq d d') (Nat.beq l l')
  | _, _ => false
def Sy.eq : Sy → Sy → Bool
  | .os i, .os j => Nat.beq i j
  | .iv k a b, .iv k' a' b' => andB (kq k k') (andB (Nat.beq a a') (Nat.beq b b'))
  | .so q i, .so r j => andB (Q.eq q r) (Nat.beq i j)
  | .su q a b, .su r a' b' => andB (Q.eq q r) (andB (Nat.beq a a') (Nat.beq b b'))
  | _, _ => false
mutual
def avEq : AV → AV → Bool
  | .b x, .b y => sameB x y
  | .i k n, .i k' n' => andB (kq k k') (Nat.beq n n')
  | .s n l, .s n' l' => andB (Nat.beq n n') (leqS l l')
  | .np, .np => true
  | .p q o, .p q' o' => andB (Q.eq q q') (Nat.beq o o')
  | .ns, .ns => true
  | .sl q o n c, .sl q' o' n' c' => andB (Q.eq q q') (andB (Nat.beq o o') (andB (Nat.beq n n') (AC.eq c c')))
  | .se, .se => true
  | .nf, .nf => true
  | .nm, .nm => true
  | .m q, .m q' => Q.eq q q'
  | .ni, .ni => true
  | .a l, .a l' => avEqL l l'
  | .t l, .t l' => avEqL l l'
  | .e t x, .e t' x' => andB (Nat.beq t t') (avEq x x')
  | .y s, .y s' => Sy.eq s s'
  | _, _ => false
  termination_by structural x => x
def avEqL : List AV → List AV → Bool
  | [], [] => true
  | x :: l, y :: m => andB (avEq x y) (avEqL l m)
  | _, _ => false
  termination_by structural x => x
end
theorem andB_spec {a b : Bool} (h : andB a b = true) : a = true ∧ b = true := by cases a <;> first | exact ⟨rfl, h⟩ | cases h
theorem leqS_eq : ∀ {l m : List Nat}, leqS l m = true → l = m
  | [], [], _ => rfl
  | [], _ :: _, h => by cases h
  | _ :: _, [], h => by cases h
  | x :: l, y :: m, h => by
    obtain ⟨h1, h2⟩ := andB_spec (show andB (Nat.beq x y) (leqS l m) = true from h)
    rw [Nat.eq_of_beq_eq_true h1, leqS_eq h2]
theorem Q.eq_eq : ∀ {q r : Q}, Q.eq q r = true → q = r := by
  intro q
  induction q with
  | e => intro r h; cases r <;> first | rfl | cases h
  | _ q ih => intro r h; cases r <;> first | (exact congrArg _ (ih h)) | cases h
theorem AC.eq_eq : ∀ {c d : AC}, AC.eq c d = true → c = d
  | .k _, .k _, h => by rw [Nat.eq_of_beq_eq_true h]
  | .u d l, .u d' l', h => by
    obtain ⟨h1, h2⟩ := andB_spec (show andB (Nat.beq d d') (Nat.beq l l') = true from h)
    rw [Nat.eq_of_beq_eq_true h1, Nat.eq_of_beq_eq_true h2]
  | .k _, .u _ _, h => by cases h
  | .u _ _, .k _, h => by cases h
theorem Sy.eq_eq {s t : Sy} (h : Sy.eq s t = true) : s = t := by
  cases s <;> cases t <;> (try (cases h; done))
  case os.os i j => rw [Nat.eq_of_beq_eq_true (show Nat.beq i j = true from h)]
  case iv.iv k a b k' a' b' =>
    obtain ⟨h1, h2⟩ := andB_spec (show andB (kq k k') (andB (Nat.beq a a') (Nat.beq b b')) = true from h)
    obtain ⟨h3, h4⟩ := andB_spec h2
    rw [kN_inj (Nat.eq_of_beq_eq_true h1), Nat.eq_of_beq_eq_true h3, Nat.eq_of_beq_eq_true h4]
  case so.so q i r j =>
    obtain ⟨h1, h2⟩ := andB_spec (show andB (Q.eq q r) (Nat.beq i j) = true from h)
    rw [Q.eq_eq h1, Nat.eq_of_beq_eq_true h2]
  case su.su q a b r a' b' =>
    obtain ⟨h1, h2⟩ := andB_spec (show andB (Q.eq q r) (andB (Nat.beq a a') (Nat.beq b b')) = true from h)
    obtain ⟨h3, h4⟩ := andB_spec h2
    rw [Q.eq_eq h1, Nat.eq_of_beq_eq_true h3, Nat.eq_of_beq_eq_true h4]
mutual
theorem avEq_eq : ∀ {x y : AV}, avEq x y = true → x = y := by
  intro x y h
  cases x <;> cases y <;> (try (cases h; done))
  case b.b x y =>
    have h : sameB x y = true := h
    rw [sameB_eq] at h
    rw [beq_iff_eq.1 h]
  case i.i k n k' n' =>
    obtain ⟨h1, h2⟩ := andB_spec (show andB (kq k k') (Nat.beq n n') = true from h)
    rw [kN_inj (Nat.eq_of_beq_eq_true h1), Nat.eq_of_beq_eq_true h2]
  case s.s n l n' l' =>
    obtain ⟨h1, h2⟩ := andB_spec (show andB (Nat.beq n n') (leqS l l') = true from h)
    rw [leqS_eq h2, Nat.eq_of_beq_eq_true h1]
  case np.np => rfl
  case y.y s s' => rw [Sy.eq_eq (show Sy.eq s s' = true from h)]
  case p.p q o q' o' =>
    obtain ⟨h1, h2⟩ := andB_spec (show andB (Q.eq q q') (Nat.beq o o') = true from h)
    rw [Q.eq_eq h1, Nat.eq_of_beq_eq_true h2]
  case ns.ns => rfl
  case sl.sl q o n c q' o' n' c' =>
    obtain ⟨h1, h2⟩ := andB_spec (show andB (Q.eq q q') (andB (Nat.beq o o') (andB (Nat.beq n n') (AC.eq c c'))) = true from h)
    obtain ⟨h3, h4⟩ := andB_spec h2
    obtain ⟨h5, h6⟩ := andB_spec h4
    rw [Q.eq_eq h1, Nat.eq_of_beq_eq_true h3, Nat.eq_of_beq_eq_true h5, AC.eq_eq h6]
  case se.se => rfl
  case nf.nf => rfl
  case nm.nm => rfl
  case m.m q q' => rw [Q.eq_eq (show Q.eq q q' = true from h)]
  case ni.ni => rfl
  case a.a l l' => rw [avEqL_eq (show avEqL l l' = true from h)]
  case t.t l l' => rw [avEqL_eq (show avEqL l l' = true from h)]
  case e.e t x t' x' =>
    obtain ⟨h1, h2⟩ := andB_spec (show andB (Nat.beq t t') (avEq x x') = true from h)
    rw [avEq_eq h2, Nat.eq_of_beq_eq_true h1]
theorem avEqL_eq : ∀ {l m : List AV}, avEqL l m = true → l = m := by
  intro l m h
  cases l <;> cases m <;> first | rfl | (cases h; done) | skip
  case cons.cons x l y m =>
    obtain ⟨h1, h2⟩ := andB_spec (show andB (avEq x y) (avEqL l m) = true from h)
    rw [avEq_eq h1, avEqL_eq h2]
end
/-- What an operation's edges bind to. -/
def dpr (o : Oper) : List Nat := (o.after.toList.filter (Region.binds .any)).map (·.on)
/-- What stands before: masks, one for each operation. -/
def msk1 (acc : List Nat) (l : List Nat) : Nat := List.foldl (fun s i => Nat.lor (Nat.lor s (Nat.pow 2 i)) (acc.getD i 0)) 0 l
def mskL : List Oper → List Nat → List Nat
  | [], acc => acc
  | o :: l, acc => mskL l (acc ++ [msk1 acc (dpr o)])
def bfr (pm : List Nat) (j i : Nat) : Bool := Nat.testBit (pm.getD j 0) i
/-- The temporaries that an operation names. -/
def opT (x : Operand) : List Nat := match x with
  | .tmp t => [t]
  | _ => []
def nmsOf (all : List Oper) (o : Oper) : List Nat := o.dst.toList ++ (o.op.operands.toList.flatMap opT ++ match o.guard with
  | none => []
  | some (j, _) => ((all[j]?).bind (·.dst)).toList)
def memN (l : List Nat) (i : Nat) : Bool := l.any (Nat.beq i)
/-- All that is asked of an order: each operation once, behind what stands before it; who writes what another names stands before or behind; so do all that write the heap. -/
def linOk (all : List Oper) : List Nat → List Nat → Bool
  | _, [] => true
  | pre, j :: post => match all[j]? with
    | some o => (dpr o).all (memN pre) && !(memN pre j) && linOk all (j :: pre) post
    | none => false
/-- Does it read the heap? -/
def isRead (P : Program) (op : Op) : Bool := match op with
  | .load .. | .lookup .. => true
  | .convert s _ _ => (sliceOf P s).isSome
  | .call c => match c.callee with
    | .builtin b => match b with
      | .len => match c.argTypes.toList with
        | [t] => (mapOf P t).isSome
        | _ => true
      | _ => false
    | _ => false
  | _ => false
/-- New memory that no edge binds to some other writer of the heap: it is taken to be laid late. -/
def isAl (o : Oper) : Bool := match o.op, o.guard with
  | .alloc _, none => true
  | _, _ => false
def lateL (P : Program) (all : List Oper) (pm : List Nat) : List Nat := ((all.zipIdx).filter fun x => isAl x.1 && (all.zipIdx).any fun y => isHeavy P y.1.op && !(Nat.beq x.2 y.2) && !(bfr pm x.2 y.2) && !(bfr pm y.2 x.2)).map (·.2)
def cmpOk (P : Program) (all : List Oper) (pm A : List Nat) : Bool :=
  (all.zipIdx).all fun x => (all.zipIdx).all fun y => Nat.beq x.2 y.2 || bfr pm x.2 y.2 || bfr pm y.2 x.2 ||
    (!(match x.1.dst with
      | some d => memN (nmsOf all y.1) d
      | none => false) && (!(isHeavy P x.1.op && isHeavy P y.1.op) || memN A x.2 || memN A y.2))
def hvL (P : Program) (all : List Oper) (ord : List Nat) : List Nat := ord.filter fun i => match all[i]? with
  | some o => isHeavy P o.op
  | none => false
def dstN (all : List Oper) (a : Nat) (l : List Nat) : Bool := match (all[a]?).bind (·.dst) with
  | some d => memN l d
  | none => false
/-- 'hv' is 'pre', then 'As', then 'post'. -/
def lateOk (P : Program) (all : List Oper) (pm A pre As post : List Nat) : Bool :=
  As.all (memN A) && post.all (fun i => !(memN A i)) && post.all (fun i => (pre ++ As).all (bfr pm i)) &&
  (all.zipIdx).all fun y => (memN A y.2 && As.all fun a => Nat.beq a y.2 || !(dstN all a (nmsOf all y.1))) || (As.all fun a => !(dstN all a (nmsOf all y.1)) && !(isRead P y.1.op && bfr pm y.2 a)) || (pre ++ As).all (bfr pm y.2)
def preL (A hv : List Nat) : List Nat := hv.takeWhile fun i => !(memN A i)
def ordOk (P : Program) (all : List Oper) (ord : List Nat) : Bool :=
  (List.range all.length).all (memN ord) && linOk all [] ord && cmpOk P all (mskL all []) (lateL P all (mskL all [])) &&
  lateOk P all (mskL all []) (lateL P all (mskL all [])) (preL (lateL P all (mskL all [])) (hvL P all ord)) (((hvL P all ord).drop (preL (lateL P all (mskL all [])) (hvL P all ord)).length).take (lateL P all (mskL all [])).length) (((hvL P all ord).drop (preL (lateL P all (mskL all [])) (hvL P all ord)).length).drop (lateL P all (mskL all [])).length)
/-- Heaps at which a reader may stand: 'c' of the writers are done. -/
def mayAt (pm hv : List Nat) (j c : Nat) : Bool := (hv.take c).all (fun i => !bfr pm i j) && (hv.drop c).all (fun i => !bfr pm j i)
noncomputable abbrev runG (P : Program) (T : Tbl) (M : List (Nat × Nat)) (all : List Oper) (ord : List Nat) : List (Nat × Nat × List AV × AV) → List Hp → List AV → Hp → (List (Nat × Nat × List AV × AV) → List Hp → List AV → Hp → Bool) → Bool :=
  List.rec (motive := fun _ => List (Nat × Nat × List AV × AV) → List Hp → List AV → Hp → (List (Nat × Nat × List AV × AV) → List Hp → List AV → Hp → Bool) → Bool) (fun acc hs env h k => k acc hs env h)
    (fun i _ ih acc hs env h k => match all[i]? with
      | some o => gopD P T M all o env h fun y h' => setO o.dst y env fun env' => ih (acc ++ [(i, hs.length, env, y)]) (match isHeavy P o.op with
        | true => hs ++ [h']
        | false => hs) env' h' k
      | none => false) ord
/-- One reader, once more, at each other heap at which it may stand. -/
noncomputable abbrev rck1 (P : Program) (T : Tbl) (M : List (Nat × Nat)) (all : List Oper) (pm hv : List Nat) (r : Nat × Nat × List AV × AV) (o : Oper) (hs : List Hp) : Nat → Bool → Bool :=
  List.rec (motive := fun _ => Nat → Bool → Bool) (fun _ b => b)
    (fun h _ ih c b => match mayAt pm hv r.1 c && !(Nat.beq (Nat.succ c) r.2.1) with
      | true => gopD P T M all o r.2.2.1 h fun y _ => ifT (avEq y r.2.2.2) (ih (Nat.succ c) b)
      | false => ih (Nat.succ c) b) hs
noncomputable abbrev rckL (P : Program) (T : Tbl) (M : List (Nat × Nat)) (all : List Oper) (pm hv : List Nat) (hs : List Hp) (acc : List (Nat × Nat × List AV × AV)) : Bool → Bool :=
  List.rec (motive := fun _ => Bool → Bool) (fun b => b)
    (fun r _ ih b => match all[r.1]? with
      | some o => match isRead P o.op with
        | true => rck1 P T M all pm hv r o hs 0 (ih b)
        | false => ih b
      | none => false) acc
noncomputable abbrev drawD (P : Program) (T : Tbl) (M : List (Nat × Nat)) (all : List Oper) (ord : List Nat) (env : List AV) (h : Hp) (k : List AV → Hp → Bool) : Bool :=
  match ordOk P all ord with
  | true => runG P T M all ord [] [h] env h fun acc hs env' h' => rckL P T M all (mskL all []) (hvL P all ord) hs acc (k env' h')
  | false => false

/-! Code. -/
inductive Ex where
  | n
  | x (id : Nat)
  | r
abbrev Kt := Ex → List AV → Hp → Bool
abbrev CT : Nat → Type
  | 0 => Hp → Bool
  | n + 1 => AV → CT n
def capp : (n : Nat) → CT n → List AV → Hp → Bool
  | 0, j, [], h => j h
  | 0, _, _ :: _, _ => false
  | _ + 1, _, [], _ => false
  | n + 1, j, x :: l, h => capp n (j x) l h
def clam : (n : Nat) → (List AV → Hp → Bool) → CT n
  | 0, f => f []
  | n + 1, f => fun x => clam n fun l => f (x :: l)
theorem capp_clam : ∀ (n : Nat) (f : List AV → Hp → Bool) (l : List AV) (h : Hp), capp n (clam n f) l h = true → l.length = n ∧ f l h = true
  | 0, _, [], _, hh => ⟨rfl, hh⟩
  | 0, _, _ :: _, _, hh => by cases hh
  | n + 1, _, [], _, hh => by cases hh
  | n + 1, f, x :: l, h, hh => by
    obtain ⟨h1, h2⟩ := capp_clam n (fun l => f (x :: l)) l h hh
    exact ⟨by simp [h1], h2⟩
/-- Where ways meet again. -/
def jn (n : Nat) (f : CT n → Bool) (k : CT n) : Bool := f k
noncomputable def lpR (n : Nat) (F : CT n → CT n) (m : Nat) : CT n := Nat.rec (motive := fun _ => CT n) (clam n fun _ _ => false) (fun _ ih => F ih) m
noncomputable def lp (n : Nat) (F : CT n → CT n) : CT n := lpR n F 100000
abbrev sel (W : List Nat) (env : List AV) : List AV := W.map fun i => env.getD i .d
noncomputable abbrev beK (W : List Nat) : List AV → List AV → (List AV → Bool) → Bool :=
  List.rec (motive := fun _ => List AV → List AV → (List AV → Bool) → Bool) (fun _ env k => k env) (fun i _ ih vals env k => List.casesOn (motive := fun _ => Bool) vals false fun x vals => lsK x env i fun env' => ih vals env' k) W
def cdK (x : AV) (a b : Bool) : Bool := x.on_b fun c => Bool.casesOn (motive := fun _ => Bool) c b a
abbrev seqK (f : List AV → Hp → Bool) (K : Kt) : Kt := fun e => match e with
  | .n => f
  | .x i => K (.x i)
  | .r => K .r
abbrev jK (n : Nat) (j : CT n) (W : List Nat) (K : Kt) : Kt := fun e env h => match e with
  | .n => capp n j (sel W env) h
  | .x i => K (.x i) env h
  | .r => K .r env h
abbrev blkK (id : Nat) (K : Kt) : Kt := fun e env h => match e with
  | .n => K .n env h
  | .x i => Bool.casesOn (motive := fun _ => Bool) (Nat.beq i id) (K (.x i) env h) (K .n env h)
  | .r => K .r env h
inductive Ann where
  | o
  | g (ord : List Nat)
  | s (x y : Ann)
  | i (x y : Ann)
  | j (W : List Nat) (x y : Ann)
  | b (x : Ann)
  | k (W : List Nat) (x : Ann)
  | l (W : List Nat) (x : Ann)
/-- What is met behind a join: the temporaries of 'W' alone are known. -/
noncomputable abbrev metK (N : Nat) (W : List Nat) (K : Kt) : CT W.length := clam W.length fun vals h => beK W vals (List.replicate N .d) fun env => K .n env h
noncomputable abbrev den (P : Program) (T : Tbl) (M : List (Nat × Nat)) (N : Nat) (c : Code) : Ann → Kt → List AV → Hp → Bool :=
  Code.rec (motive := fun _ => Ann → Kt → List AV → Hp → Bool)
    (fun _ K env h => K .n env h)
    (fun _ ops draw ann K env h => match draw with
      | false => opsD P T M ops.toList ops.toList env h (K .n)
      | true => match ann with
        | .g ord => drawD P T M ops.toList ord env h (K .n)
        | _ => false)
    (fun _ _ da db ann K env h => match ann with
      | .s x y => da x (seqK (db y K) K) env h
      | _ => false)
    (fun c _ _ da db ann K env h => match ann with
      | .i x y => cdK (evA env c) (da x K env h) (db y K env h)
      | .j W x y => jn W.length (fun j => cdK (evA env c) (da x (jK W.length j W K) env h) (db y (jK W.length j W K) env h)) (metK N W K)
      | _ => false)
    (fun id _ da ann K env h => match ann with
      | .b x => da x (blkK id K) env h
      | .k W x => jn W.length (fun j => da x (blkK id (jK W.length j W K)) env h) (metK N W K)
      | _ => false)
    (fun _ da ann K env h => match ann with
      | .l W x => capp W.length (lp W.length fun ih => clam W.length fun vals h' => beK W vals (List.replicate N .d) fun env' => da x (jK W.length ih W K) env' h') (sel W env) h
      | _ => false)
    (fun _ _ _ _ _ _ _ _ _ _ => false)
    (fun id _ K env h => K (.x id) env h)
    (fun _ _ _ _ _ _ => false)
    (fun _ _ _ _ _ => false)
    (fun _ _ _ _ _ => false)
    (fun _ K env h => K .r env h)
    (fun _ _ _ _ _ => false) c
theorem den_skip (P : Program) (T : Tbl) (M : List (Nat × Nat)) (N : Nat) (ann : Ann) (K : Kt) (env : List AV) (h : Hp) : den P T M N .skip ann K env h = K .n env h := rfl
/-- What a function returns. -/
noncomputable abbrev resD (P : Program) (env : List AV) (h : Hp) (rs : List ResultVar) : (List AV → Bool) → Bool :=
  List.rec (motive := fun _ => (List AV → Bool) → Bool) (fun k => k []) (fun r _ ih k => match r with
    | .tmp t => ih fun l => k (env.getD t .d :: l)
    | .cell a t => match aggOf P t with
      | some (true, n) => ldN n (env.getD a .d) h fun y => ih fun l => k (y :: l)
      | some (false, _) => ld1 (env.getD a .d) h fun y => ih fun l => k (y :: l)
      | none => false) rs
abbrev ret1 (l : List AV) (h : Hp) (k : AV → Hp → Bool) : Bool := match l with
  | [y] => k y h
  | l => k (.t l) h
noncomputable abbrev retK (P : Program) (rs : List ResultVar) (k : AV → Hp → Bool) : Kt := fun e env h => match e with
  | .n => resD P env h rs fun l => ret1 l h k
  | .x _ => false
  | .r => resD P env h rs fun l => ret1 l h k
noncomputable abbrev fnD (P : Program) (T : Tbl) (M : List (Nat × Nat)) (n N : Nat) (rs : List ResultVar) (c : Code) (ann : Ann) : FS := fun args h k =>
  capp n (clam n fun vals h => den P T M N c ann (retK P rs k) (vals ++ List.replicate (N - n) .d) h) args h
/-- .. by its declaration. -/
noncomputable abbrev fnF (P : Program) (T : Tbl) (M : List (Nat × Nat)) (fn : Func) (ann : Ann) : FS := match fn.body with
  | some c => fnD P T M (Nat.add fn.params.toList.length fn.nfree) fn.ntmps fn.results.toList c ann
  | none => fun _ _ _ => false
end Go.Proofs.YtmddhlfjilkdfaaGreatDoor
namespace Go.Proofs.YtmddhlfjilkdfaaGreatDoor
set_option linter.unusedVariables false
set_option linter.unusedSimpArgs false

section
variable {α β γ : Type}
theorem Det.congr {f g : (α → Bool) → Bool} (h : ∀ k, f k = g k) (hg : Det g) : Det f := by
  obtain ⟨r, hr⟩ := hg
  exact ⟨r, fun k => (h k).trans (hr k)⟩
theorem Det2.congr {f g : (α → β → Bool) → Bool} (h : ∀ k, f k = g k) (hg : Det2 g) : Det2 f := by
  obtain ⟨r, hr⟩ := hg
  exact ⟨r, fun k => (h k).trans (hr k)⟩
theorem Det.on_b {x : AV} {g : Bool → (α → Bool) → Bool} (hg : ∀ b, Det (g b)) : Det (fun k => x.on_b fun b => g b k) := by cases x <;> first | exact hg _ | exact Det.fail
theorem Det.on_i {x : AV} {g : IntKind → Nat → (α → Bool) → Bool} (hg : ∀ b n, Det (g b n)) : Det (fun k => x.on_i fun b n => g b n k) := by cases x <;> first | exact hg _ _ | exact Det.fail
theorem Det.on_s {x : AV} {g : Nat → List Nat → (α → Bool) → Bool} (hg : ∀ b n, Det (g b n)) : Det (fun k => x.on_s fun b n => g b n k) := by cases x <;> first | exact hg _ _ | exact Det.fail
theorem Det2.on_s {x : AV} {g : Nat → List Nat → (α → β → Bool) → Bool} (hg : ∀ b n, Det2 (g b n)) : Det2 (fun k => x.on_s fun b n => g b n k) := by cases x <;> first | exact hg _ _ | exact Det2.fail
theorem Det.on_sl {x : AV} {g : Q → Nat → Nat → AC → (α → Bool) → Bool} (hg : ∀ a b c d, Det (g a b c d)) : Det (fun k => x.on_sl fun a b c d => g a b c d k) := by cases x <;> first | exact hg _ _ _ _ | exact Det.fail
theorem Det2.on_f {x : AV} {g : Nat → List AV → List AV → (α → β → Bool) → Bool} (hg : ∀ a b c, Det2 (g a b c)) : Det2 (fun k => x.on_f fun a b c => g a b c k) := by cases x <;> first | exact hg _ _ _ | exact Det2.fail
theorem Det.on_m {x : AV} {g : Q → (α → Bool) → Bool} (hg : ∀ b, Det (g b)) : Det (fun k => x.on_m fun b => g b k) := by cases x <;> first | exact hg _ | exact Det.fail
theorem Det.on_a {x : AV} {g : List AV → (α → Bool) → Bool} (hg : ∀ b, Det (g b)) : Det (fun k => x.on_a fun b => g b k) := by cases x <;> first | exact hg _ | exact Det.fail
theorem Det.on_t {x : AV} {g : List AV → (α → Bool) → Bool} (hg : ∀ b, Det (g b)) : Det (fun k => x.on_t fun b => g b k) := by cases x <;> first | exact hg _ | exact Det.fail
theorem Det2.on_e {x : AV} {g : Nat → AV → (α → β → Bool) → Bool} (hg : ∀ a b, Det2 (g a b)) : Det2 (fun k => x.on_e fun a b => g a b k) := by cases x <;> first | exact hg _ _ | exact Det2.fail
theorem Det.onM {b : OB} {g : List (AV × AV) → (α → Bool) → Bool} (hg : ∀ es, Det (g es)) : Det (fun k => b.onM fun es => g es k) := by cases b <;> first | exact hg _ | exact Det.fail
theorem Det2.onS {b : OB} {g : Nat → List Nat → (α → β → Bool) → Bool} (hg : ∀ a c, Det2 (g a c)) : Det2 (fun k => b.onS fun a c => g a c k) := by cases b <;> first | exact hg _ _ | exact Det2.fail
theorem Det.natK (n : Nat) {g : Nat → (α → Bool) → Bool} (hg : ∀ n, Det (g n)) : Det (fun k => natK n fun m => g m k) := (hg n).congr fun _ => natK_eq _ _
theorem Det2.natK (n : Nat) {g : Nat → (α → β → Bool) → Bool} (hg : ∀ n, Det2 (g n)) : Det2 (fun k => natK n fun m => g m k) := (hg n).congr fun _ => natK_eq _ _
theorem Det.setK (b : OB) (q : Q) (t : HT) {g : HT → (α → Bool) → Bool} (hg : ∀ t, Det (g t)) : Det (fun k => HT.setK b q t fun t' => g t' k) := (hg _).congr fun _ => HT.setK_eq _ _ _ _
theorem Det2.setK (b : OB) (q : Q) (t : HT) {g : HT → (α → β → Bool) → Bool} (hg : ∀ t, Det2 (g t)) : Det2 (fun k => HT.setK b q t fun t' => g t' k) := (hg _).congr fun _ => HT.setK_eq _ _ _ _
theorem Det2.succK (q : Q) {g : Q → (α → β → Bool) → Bool} (hg : ∀ q, Det2 (g q)) : Det2 (fun k => q.succK fun q' => g q' k) := (hg _).congr fun _ => Q.succK_eq _ _
theorem Det2.bool (b : Bool) {g1 g2 : (α → β → Bool) → Bool} (h1 : Det2 g1) (h2 : Det2 g2) : Det2 (fun k => Bool.casesOn (motive := fun _ => Bool) b (g1 k) (g2 k)) := by cases b <;> assumption
theorem Det.bool (b : Bool) {g1 g2 : (α → Bool) → Bool} (h1 : Det g1) (h2 : Det g2) : Det (fun k => Bool.casesOn (motive := fun _ => Bool) b (g1 k) (g2 k)) := by cases b <;> assumption
theorem sel4_det {n : Nat} {a b c d : (α → Bool) → Bool} (ha : Det a) (hb : Det b) (hc : Det c) (hd : Det d) : Det (fun k => sel4 n (a k) (b k) (c k) (d k)) := by
  match n with
  | 0 => exact ha
  | 1 => exact hb
  | 2 => exact hc
  | _ + 3 => exact hd
theorem setK_detV (x : AV) : ∀ (v : V) (i : Nat), Det (V.setK x v i) := by
  intro v
  induction v with
  | z => intro i; cases i with
    | zero => exact Det.ret _
    | succ i => exact Det.fail
  | n a c0 c1 c2 c3 h0 h1 h2 h3 => intro i; cases i with
    | zero => exact Det.ret _
    | succ i => exact sel4_det ((h0 _).bind fun _ => Det.ret _) ((h1 _).bind fun _ => Det.ret _) ((h2 _).bind fun _ => Det.ret _) ((h3 _).bind fun _ => Det.ret _)
theorem setL_det : ∀ (xs : List AV) (v : V) (i : Nat), Det (V.setL xs v i)
  | [], v, _ => Det.ret v
  | x :: xs, v, i => (setK_detV x v i).bind fun v' => setL_det xs v' (i + 1)
theorem lgetK_det : ∀ (l : List α) (i : Nat), Det (lgetK l i)
  | [], _ => Det.fail
  | x :: _, 0 => Det.ret x
  | _ :: l, i + 1 => lgetK_det l i
theorem cellsK_det (x : AV) (n : Nat) : Det (x.cellsK n) := by
  cases x <;> first | exact Det.fail | exact Det.bool _ Det.fail (Det.ret _)
theorem bytesK_det : ∀ l : List AV, Det (bytesK l)
  | [] => Det.ret _
  | x :: l => by
    show Det fun k => x.on_i _
    refine Det.on_i (g := fun kd m k => IntKind.casesOn (motive := fun _ => Bool) kd false false false false (ifT (Nat.ble 9223372036854775808 m) (Go.Proofs.YtmddhlfjilkdfaaGreatDoor.natK (Nat.sub m 9223372036854775808) fun b => ifT (Nat.blt b 256) (bytesK l fun r => k (b :: r)))) false false false) fun kd m => ?_
    cases kd <;> first | exact Det.fail | exact det_ifT (Det.natK _ fun _ => det_ifT ((bytesK_det l).bind fun _ => Det.ret _))
theorem bldK_det : ∀ (ps : List (Nat × Nat × AV)) (cells : List AV), Det (bldK ps cells)
  | [], c => Det.ret c
  | p :: ps, c => (cellsK_det p.2.2 p.2.1).bind fun cs => bldK_det ps (lput p.1 p.2.1 cs c)
theorem catK_det (sz : Nat) : ∀ xs : List AV, Det (catK sz xs)
  | [] => Det.ret _
  | x :: xs => (cellsK_det x sz).bind fun _ => (catK_det sz xs).bind fun _ => Det.ret _
theorem Det.yK {x : AV} {f : Sy → (α → Bool) → Bool} {g : (α → Bool) → Bool} (hf : ∀ s, Det (f s)) (hg : Det g) : Det (fun k => x.yK (fun s => f s k) (g k)) := by cases x <;> first | exact hf _ | exact hg
theorem Det2.yK {x : AV} {f : Sy → (α → β → Bool) → Bool} {g : (α → β → Bool) → Bool} (hf : ∀ s, Det2 (f s)) (hg : Det2 g) : Det2 (fun k => x.yK (fun s => f s k) (g k)) := by cases x <;> first | exact hf _ | exact hg
theorem Det.on_y {x : AV} {f : Sy → (α → Bool) → Bool} (hf : ∀ s, Det (f s)) : Det (fun k => x.on_y (fun s => f s k)) := by cases x <;> first | exact hf _ | exact Det.fail
theorem Det.on_os {s : Sy} {f : Nat → (α → Bool) → Bool} (hf : ∀ i, Det (f i)) : Det (fun k => s.on_os (fun i => f i k)) := by cases s <;> first | exact hf _ | exact Det.fail
theorem Det2.on_os {s : Sy} {f : Nat → (α → β → Bool) → Bool} (hf : ∀ i, Det2 (f i)) : Det2 (fun k => s.on_os (fun i => f i k)) := by cases s <;> first | exact hf _ | exact Det2.fail
theorem Det.on_iv {s : Sy} {f : IntKind → Nat → Nat → (α → Bool) → Bool} (hf : ∀ a b c, Det (f a b c)) : Det (fun k => s.on_iv (fun a b c => f a b c k)) := by cases s <;> first | exact hf _ _ _ | exact Det.fail
theorem Det.on_so {s : Sy} {f : Q → Nat → (α → Bool) → Bool} (hf : ∀ a b, Det (f a b)) : Det (fun k => s.on_so (fun a b => f a b k)) := by cases s <;> first | exact hf _ _ | exact Det.fail
theorem Det.onY {b : OB} {f : Oy → (α → Bool) → Bool} (hf : ∀ s, Det (f s)) : Det (fun k => b.onY (fun s => f s k)) := by cases b <;> first | exact hf _ | exact Det.fail
theorem Det2.onY {b : OB} {f : Oy → (α → β → Bool) → Bool} (hf : ∀ s, Det2 (f s)) : Det2 (fun k => b.onY (fun s => f s k)) := by cases b <;> first | exact hf _ | exact Det2.fail
theorem Det.on_op {o : Oy} {f : Nat → (α → Bool) → Bool} (hf : ∀ i, Det (f i)) : Det (fun k => o.on_op (fun i => f i k)) := by cases o <;> first | exact hf _ | exact Det.fail
theorem Det2.on_op {o : Oy} {f : Nat → (α → β → Bool) → Bool} (hf : ∀ i, Det2 (f i)) : Det2 (fun k => o.on_op (fun i => f i k)) := by cases o <;> first | exact hf _ | exact Det2.fail
theorem Det2.on_soup {o : Oy} {f : Nat → (α → β → Bool) → Bool} (hf : ∀ i, Det2 (f i)) : Det2 (fun k => o.on_soup (fun i => f i k)) := by cases o <;> first | exact hf _ | exact Det2.fail
theorem osK_det {x y : AV} {f g : (α → Bool) → Bool} (hf : Det f) (hg : Det g) : Det (fun k => osK x y (f k) (g k)) :=
  Det.yK (f := fun s k => s.on_os fun i => y.on_y fun t => t.on_os fun j => Bool.casesOn (motive := fun _ => Bool) (Nat.beq i j) false (g k)) (fun s => Det.on_os fun i => Det.on_y fun t => Det.on_os fun j => Det.bool _ Det.fail hg) hf
theorem kqK_det (s : Bool) (x y : AV) : Det (kqK s x y) := by
  cases s
  · exact Det.on_i fun _ _ => Det.on_i fun _ _ => det_ifT (Det.ret _)
  · exact osK_det (f := fun k => x.on_s fun _ l => y.on_s fun _ r => k (leq l r)) (g := fun k => k true) (Det.on_s fun _ _ => Det.on_s fun _ _ => Det.ret _) (Det.ret true)
theorem muK_det (s : Bool) (x z : AV) : ∀ es : List (AV × AV), Det (muK s x z es)
  | [] => Det.ret _
  | e :: t => (kqK_det s x e.1).bind fun r => Det.bool r ((muK_det s x z t).bind fun es' => Det.ret (e :: es')) (Det.ret ((x, z) :: t))
theorem mdK_det (s : Bool) (x : AV) : ∀ es : List (AV × AV), Det (mdK s x es)
  | [] => Det.ret _
  | e :: t => (kqK_det s x e.1).bind fun r => Det.bool r ((mdK_det s x t).bind fun es' => Det.ret (e :: es')) (Det.ret t)
theorem Det2.of1 {f : (α → Bool) → Bool} {b : β} (h : Det f) : Det2 (fun k => f fun a => k a b) := h.to2 fun a => Det2.ret a b
theorem ifN_det (c : Bool) (n : Nat) : Det (fun k : Nat → Bool => ifT c (Go.Proofs.YtmddhlfjilkdfaaGreatDoor.natK n k)) := det_ifT ((Det.ret n).congr fun k => natK_eq n k)
theorem idxK_det (x : AV) : Det (idxK x) := by
  cases x <;> first | exact Det.fail | exact ifN_det _ _
theorem optK_det (x : Option AV) (d : Nat) : Det (optK x d) := by
  cases x with
  | none => exact Det.ret d
  | some x => exact idxK_det x
end
end Go.Proofs.YtmddhlfjilkdfaaGreatDoor
namespace Go.Proofs.YtmddhlfjilkdfaaGreatDoor
set_option linter.unusedVariables false
set_option linter.unusedSimpArgs false

theorem ibK_det (op : BinOp) (kd : IntKind) (a b : Nat) : Det (ibK op kd a b) := by
  cases op <;> first | exact Det.fail | exact Det.ret _ | exact Det.natK _ fun n => Det.ret _ | exact det_ifT (det_ifT (Det.natK _ fun n => Det.ret _))
theorem shK_det (op : BinOp) (kd : IntKind) (a b : Nat) : Det (shK op kd a b) := by
  refine det_ifT (det_ifT ?_)
  cases op <;> first | exact Det.fail | exact Det.natK _ fun n => Det.ret _
theorem sbK_det (op : BinOp) (n : Nat) (l : List Nat) (m : Nat) (r : List Nat) : Det (sbK op n l m r) := by
  cases op <;> first | exact Det.fail | exact Det.ret _ | exact det_ifT (Det.ret _)
theorem eqB_det (op : BinOp) (x : Bool) : Det (eqB op x) := by cases op <;> first | exact Det.fail | exact Det.ret _
theorem nilP_det (x : AV) : Det (nilP x) := by cases x <;> first | exact Det.fail | exact Det.ret _
theorem nilS_det (x : AV) : Det (nilS x) := by
  cases x <;> first | exact Det.fail | exact Det.ret _ | skip
  rename_i s
  cases s <;> first | exact Det.fail | exact Det.ret _
theorem nilI_det (x : AV) : Det (nilI x) := by cases x <;> first | exact Det.fail | exact Det.ret _
theorem ikK_det (op : BinOp) (x y : AV) : Det (ikK op x y) := Det.on_i fun kd a => Det.on_i fun _ b => det_ifT (ibK_det op kd a b)
theorem bndK_det {α : Type} {x : AV} {f : IntKind → Nat → Nat → (α → Bool) → Bool} (hf : ∀ a b c, Det (f a b c)) : Det (fun k => bndK x fun a b c => f a b c k) := by
  cases x <;> first | exact hf _ _ _ | exact Det.fail | exact Det.on_iv hf
theorem decB_det (a b : Bool) : Det (decB a b) := by cases a <;> cases b <;> first | exact Det.fail | exact Det.ret _
theorem ivB_det (op : BinOp) (kd : IntKind) (a b c d : Nat) : Det (ivB op kd a b c d) := by
  cases op
  case add => exact det_ifT (det_ifT (det_ifT (Det.ret (α := AV) _)))
  case sub => exact det_ifT (det_ifT (det_ifT (Det.ret (α := AV) _)))
  case eql => exact decB_det false (orB (Nat.blt b c) (Nat.blt d a))
  case neq => exact decB_det (orB (Nat.blt b c) (Nat.blt d a)) false
  case lss => exact decB_det (Nat.blt b c) (Nat.ble d a)
  case leq => exact decB_det (Nat.ble b c) (Nat.blt d a)
  case gtr => exact decB_det (Nat.blt d a) (Nat.ble b c)
  case geq => exact decB_det (Nat.ble d a) (Nat.blt b c)
  all_goals exact Det.fail
theorem ivP_det (op : BinOp) (x y : AV) : Det (ivP op x y) := bndK_det fun kd a b => bndK_det fun ke c d => det_ifT (ivB_det op kd a b c d)
theorem ikY_det (op : BinOp) (x y : AV) : Det (ikY op x y) := Det.yK (f := fun _ => ivP op x y) (fun _ => ivP_det op x y) (g := fun k => y.yK (fun _ => ivP op x y k) (ikK op x y k)) (Det.yK (f := fun _ => ivP op x y) (fun _ => ivP_det op x y) (ikK_det op x y))
theorem shkK_det (op : BinOp) (x y : AV) : Det (shkK op x y) := Det.on_i fun kd a => Det.on_i fun _ b => shK_det op kd a b
theorem stK_det (op : BinOp) (x y : AV) : Det (stK op x y) := Det.on_s fun n l => Det.on_s fun m r => sbK_det op n l m r
theorem stY_det (op : BinOp) (x y : AV) : Det (stY op x y) := osK_det (stK_det op x y) (eqB_det op true)
theorem bbK_det (op : BinOp) (x y : AV) : Det (bbK op x y) := Det.on_b fun a => Det.on_b fun b => eqB_det op (sameB a b)
theorem npK_det (op : BinOp) (x y : AV) : Det (npK op x y) := (nilP_det x).bind fun a => (nilP_det y).bind fun b => det_ifT (eqB_det op (andB a b))
theorem nsK_det (op : BinOp) (x y : AV) : Det (nsK op x y) := (nilS_det x).bind fun a => (nilS_det y).bind fun b => det_ifT (eqB_det op (andB a b))
theorem niK_det (op : BinOp) (x y : AV) : Det (niK op x y) := (nilI_det x).bind fun a => (nilI_det y).bind fun b => det_ifT (eqB_det op (andB a b))
theorem paK_det (P : Program) (t off : Nat) (cs : List AV) : Det (paK P t off cs) := by
  unfold paK
  split
  · exact Det.ret _
  · exact lgetK_det _ _
  · exact Det.fail
theorem efK_det (P : Program) (eq : TypeId → AV → AV → (Bool → Bool) → Bool) (he : ∀ t x y, Det (eq t x y)) (xs ys : List AV) : ∀ fs : List Field, Det (efK P eq xs ys fs)
  | [] => Det.ret true
  | f :: fs => by
    refine Det.bool (g1 := fun k => paK P f.type f.offset xs fun a => paK P f.type f.offset ys fun b => eq f.type a b fun r => Bool.casesOn (motive := fun _ => Bool) r (k false) (efK P eq xs ys fs k)) (g2 := fun _ => false) (f.name == "_") ?_ Det.fail
    exact (paK_det _ _ _ _).bind fun a => (paK_det _ _ _ _).bind fun b => (he _ a b).bind fun r => Det.bool r (Det.ret false) (efK_det P eq he xs ys fs)
theorem eqK_det (P : Program) : ∀ (d : Nat) (t : TypeId) (x y : AV), Det (eqK P d t x y)
  | 0, _, _, _ => Det.fail
  | d + 1, t, x, y => by
    refine Det.congr (fun k => eqK_succ P d t x y k) ?_
    split
    · exact Det.on_i fun _ _ => Det.on_i fun _ _ => det_ifT (Det.ret _)
    · exact osK_det (f := fun k => x.on_s fun _ l => y.on_s fun _ r => k (leq l r)) (g := fun k => k true) (Det.on_s fun _ _ => Det.on_s fun _ _ => Det.ret _) (Det.ret true)
    · exact Det.on_b fun _ => Det.on_b fun _ => Det.ret _
    · exact Det.bool _ (Det.on_a fun xs => Det.on_a fun ys => efK_det P _ (eqK_det P d) xs ys _) Det.fail
    · exact Det.fail
theorem sqK_det (P : Program) (op : BinOp) (t : TypeId) (x y : AV) : Det (sqK P op t x y) := (eqK_det P 10000 t x y).bind fun r => eqB_det op r
theorem bopD_det (P : Program) (op : BinOp) (t : TypeId) (xo yo : Operand) (x y : AV) : Det (bopD P op t xo yo x y) := by
  unfold bopD
  split
  · exact shkK_det _ _ _
  · exact shkK_det _ _ _
  · split
    · exact ikY_det _ _ _
    · exact stY_det _ _ _
    · exact bbK_det _ _ _
    · exact npK_det _ _ _
    · exact nsK_det _ _ _
    · split
      · exact niK_det _ _ _
      · exact Det.fail
    · split
      · exact Det.fail
      · exact Det.on_a fun xs => Det.on_a fun ys => sqK_det P op t (.a xs) (.a ys)
    · exact Det.fail
theorem cbK_det (x : AV) (h : Hp) : Det (cbK x h) := by
  cases x <;> first | exact Det.fail | exact Det.ret _ | exact det_on fun _ _ _ => det_ifT ((bytesK_det _).bind fun _ => Det.ret _)
theorem cbY_det (x : AV) (h : Hp) : Det (cbY x h) := Det.yK (α := AV) (f := fun s k => s.on_so fun q i => (HT.getR q h.t).onY fun o => o.on_op fun j => ifT (Nat.beq i j) (k (.y (.os i)))) (fun s => Det.on_so fun q i => Det.onY fun o => Det.on_op fun j => det_ifT (Det.ret _)) (cbK_det x h)
theorem ciY_det (dst : IntKind) (x : AV) : Det (ciY dst x) := Det.yK (α := AV) (f := fun s k => s.on_iv fun kd a b => ifT (Nat.beq (kN kd) 3) (ifT (Nat.beq (kN dst) 3) (ifT (Nat.blt b 18446744073709551616) (k (.y (.iv dst a b)))))) (fun s => Det.on_iv fun _ _ _ => det_ifT (det_ifT (det_ifT (Det.ret _)))) (Det.on_i fun _ _ => Det.natK _ fun _ => Det.ret _)
theorem symLen_det (i : Nat) : Det (symLen i) := Det.ret _
theorem cnvD_det (P : Program) (s t : TypeId) (x : AV) (h : Hp) : Det (cnvD P s t x h) := by
  unfold cnvD
  split
  · exact ciY_det _ x
  · exact Det.yK (α := AV) (f := fun s k => s.on_os fun i => k (.y (.os i))) (fun s => Det.on_os fun _ => Det.ret _) (Det.on_s fun _ _ => Det.ret _)
  · split
    · exact cbY_det x h
    · exact Det.fail
  · exact Det.fail
theorem lnL_det (x : AV) : Det (lnL x) := by cases x <;> first | exact Det.fail | exact Det.ret _
theorem lnSY_det (x : AV) : Det (lnSY x) := Det.yK (α := AV) (f := fun s k => s.on_os fun i => symLen i k) (fun s => Det.on_os fun i => symLen_det i) (Det.on_s fun _ _ => Det.ret _)
theorem lnLY_det (x : AV) : Det (lnLY x) := Det.yK (α := AV) (f := fun s k => Sy.casesOn (motive := fun _ => Bool) s (fun _ => false) (fun _ _ _ => false) (fun _ i => symLen i k) (fun _ a b => k (.y (.iv .i64 (Nat.add a 9223372036854775808) (Nat.add b 9223372036854775808))))) (fun s => by cases s <;> first | exact Det.fail | exact symLen_det _ | exact Det.ret _) (lnL_det x)
theorem mmL_det (f : AV → AV → (AV → Bool) → Bool) (hf : ∀ x y, Det (f x y)) : ∀ (ys : List AV) (x : AV), Det (mmL f ys x)
  | [], x => Det.ret x
  | y :: ys, x => (hf x y).bind fun z => mmL_det f hf ys z
theorem bltD_det (P : Program) (b : Builtin) (ts : List TypeId) (args : List AV) (h : Hp) : Det (bltD P b ts args h) := by
  unfold bltD
  split
  · split
    · exact lnSY_det _
    · exact lnLY_det _
    · exact Det.on_m fun _ => Det.onM fun _ => Det.natK _ fun _ => Det.ret _
    · exact Det.fail
  · exact mmL_det _ (fun x y => Det.on_i fun _ _ => Det.on_i fun _ _ => Det.ret _) _ _
  · exact mmL_det _ (fun x y => Det.on_i fun _ _ => Det.on_i fun _ _ => Det.ret _) _ _
  · exact Det.fail
theorem nilX_det {α : Type} (m : AV) (lo hi : Option AV) (a : α) : Det (fun k => nilX m lo hi (k a)) := by
  cases hi with
  | none => exact Det.fail
  | some hi => exact (idxK_det m).bind fun _ => (idxK_det hi).bind fun _ => (optK_det lo 0).bind fun _ => det_ifT (det_ifT (det_ifT (Det.ret a)))
theorem sl2K_det (sz : Nat) (q : Q) (o : Nat) (c : AC) (l h : Nat) : Det (sl2K sz q o c l h) := by
  cases c
  · exact det_ifT (Det.bool _ (Det.ret _) (Det.ret _))
  · exact det_ifT (Det.bool _ (Det.bool _ (Det.ret _) (Det.ret _)) (Det.ret _))
theorem sl3K_det (sz : Nat) (q : Q) (o l h m : Nat) : Det (sl3K sz q o l h m) := Det.bool _ (Det.ret _) (Det.ret _)
theorem slK_det (sz : Nat) (lo hi mx : Option AV) (x : AV) : Det (slK sz lo hi mx x) := by
  cases x <;> first | exact Det.fail | skip
  case s n s =>
    cases mx with
    | none =>
      show Det fun (k : AV → Bool) => optK hi n fun h => optK lo 0 fun l => ifT (Nat.ble l h) (ifT (Nat.ble h n) (k (AV.s (Nat.sub h l) (List.take (Nat.sub h l) (List.drop l s)))))
      exact (optK_det hi n).bind (g := fun h k => optK lo 0 fun l => ifT (Nat.ble l h) (ifT (Nat.ble h n) (k (AV.s (Nat.sub h l) (List.take (Nat.sub h l) (List.drop l s)))))) fun h => (optK_det lo 0).bind (g := fun l k => ifT (Nat.ble l h) (ifT (Nat.ble h n) (k (AV.s (Nat.sub h l) (List.take (Nat.sub h l) (List.drop l s)))))) fun _ => det_ifT (det_ifT (Det.ret _))
    | some m => exact Det.fail
  case ns =>
    cases mx with
    | none =>
      show Det fun (k : AV → Bool) => optK hi 0 fun h => optK lo 0 fun l => ifT (Nat.ble h 0) (ifT (Nat.ble l 0) (k AV.ns))
      exact (optK_det hi 0).bind (g := fun h k => optK lo 0 fun l => ifT (Nat.ble h 0) (ifT (Nat.ble l 0) (k AV.ns))) fun h => (optK_det lo 0).bind (g := fun l k => ifT (Nat.ble h 0) (ifT (Nat.ble l 0) (k AV.ns))) fun _ => det_ifT (det_ifT (Det.ret _))
    | some m => exact nilX_det m lo hi _
  case se =>
    cases mx with
    | none =>
      show Det fun (k : AV → Bool) => optK hi 0 fun h => optK lo 0 fun l => ifT (Nat.ble h 0) (ifT (Nat.ble l 0) (k AV.se))
      exact (optK_det hi 0).bind (g := fun h k => optK lo 0 fun l => ifT (Nat.ble h 0) (ifT (Nat.ble l 0) (k AV.se))) fun h => (optK_det lo 0).bind (g := fun l k => ifT (Nat.ble h 0) (ifT (Nat.ble l 0) (k AV.se))) fun _ => det_ifT (det_ifT (Det.ret _))
    | some m => exact nilX_det m lo hi _
  case sl q o n c =>
    cases mx with
    | none =>
      show Det fun (k : AV → Bool) => optK hi n fun h => optK lo 0 fun l => ifT (Nat.ble l h) (sl2K sz q o c l h k)
      exact (optK_det hi n).bind (g := fun h k => optK lo 0 fun l => ifT (Nat.ble l h) (sl2K sz q o c l h k)) fun h => (optK_det lo 0).bind (g := fun l k => ifT (Nat.ble l h) (sl2K sz q o c l h k)) fun l => det_ifT (sl2K_det sz q o c l h)
    | some m =>
      cases hi with
      | none => exact Det.fail
      | some hi =>
        show Det fun (k : AV → Bool) => idxK m fun m => idxK hi fun h => optK lo 0 fun l => ifT (Nat.ble l h) (ifT (Nat.ble h m) (ifT (Nat.ble m c.lim) (sl3K sz q o l h m k)))
        exact (idxK_det m).bind (g := fun m k => idxK hi fun h => optK lo 0 fun l => ifT (Nat.ble l h) (ifT (Nat.ble h m) (ifT (Nat.ble m c.lim) (sl3K sz q o l h m k)))) fun m => (idxK_det hi).bind (g := fun h k => optK lo 0 fun l => ifT (Nat.ble l h) (ifT (Nat.ble h m) (ifT (Nat.ble m c.lim) (sl3K sz q o l h m k)))) fun h => (optK_det lo 0).bind (g := fun l k => ifT (Nat.ble l h) (ifT (Nat.ble h m) (ifT (Nat.ble m c.lim) (sl3K sz q o l h m k)))) fun l => det_ifT (det_ifT (det_ifT (sl3K_det sz q o l h m)))
theorem mfK_det {α : Type} (s : Bool) (x : AV) (n : (α → Bool) → Bool) (f : AV → (α → Bool) → Bool) (hn : Det n) (hf : ∀ y, Det (f y)) : ∀ es : List (AV × AV), Det (fun k => mfK s x es (n k) fun y => f y k)
  | [] => hn
  | e :: es => (kqK_det s x e.1).bind fun r => Det.bool r (mfK_det s x n f hn hf es) (hf e.2)
theorem fin2_det (ok : Bool) (x : AV) (b : Bool) : Det (fin2 ok x b) := Det.bool _ (Det.ret _) (Det.ret _)
theorem lkK_det (s ok : Bool) (z m x : AV) (h : Hp) : Det (lkK s ok z m x h) := by
  cases m <;> first | exact Det.fail | exact fin2_det _ _ _ | exact Det.onM fun es => mfK_det s x _ _ (fin2_det ok z false) (fun y => fin2_det ok y true) es
theorem taK_det (asL : Nat) (z x : AV) : Det (taK asL z x) := by
  cases x <;> first | exact Det.fail | exact Det.ret _ | exact Det.bool _ (Det.ret _) (Det.ret _)
theorem iaK_det (sz : Nat) (x i : AV) : Det (iaK sz x i) := by
  delta iaK
  exact (idxK_det i).bind (g := fun i (k : AV → Bool) => x.on_sl fun q o n _ => ifT (Nat.blt i n) (k (.p q (Nat.add o (Nat.mul i sz))))) fun _ => Det.on_sl fun _ _ _ _ => det_ifT (Det.ret _)
theorem iapK_det (n sz : Nat) (x i : AV) : Det (iapK n sz x i) := by
  delta iapK
  exact (idxK_det i).bind (g := fun i (k : AV → Bool) => x.on_p fun q o => ifT (Nat.blt i n) (k (.p q (Nat.add o (Nat.mul i sz))))) fun _ => det_on_p fun _ _ => det_ifT (Det.ret _)
theorem ixK_det (x i : AV) : Det (ixK x i) := by
  delta ixK
  exact (idxK_det i).bind (g := fun i (k : AV → Bool) => x.on_s fun _ l => lgetK l i fun b => k (byteAV b)) fun i => Det.on_s fun _ l => (lgetK_det l i).bind fun _ => Det.ret _
theorem sapK_det (n sz : Nat) (lo hi : Option AV) (x : AV) : Det (sapK n sz lo hi x) := det_on_p fun q o => (optK_det hi n).bind (g := fun h k => optK lo 0 fun l => ifT (Nat.ble l h) (ifT (Nat.ble h n) (sl3K sz q o l h n k))) fun h => (optK_det lo 0).bind (g := fun l k => ifT (Nat.ble l h) (ifT (Nat.ble h n) (sl3K sz q o l h n k))) fun l => det_ifT (det_ifT (sl3K_det sz q o l h n))
theorem slsK_det (lo hi mx : Option AV) (x : AV) : Det (slsK lo hi mx x) := Det.on_s fun n l => slK_det 0 lo hi mx (.s n l)
theorem sllK_det (sz : Nat) (lo hi mx : Option AV) (x : AV) : Det (sllK sz lo hi mx x) := (nilS_det x).bind fun _ => slK_det sz lo hi mx x
theorem blK_det (ps : List (Nat × Nat × AV)) (z : List AV) : Det (blK ps z) := (bldK_det ps z).bind fun _ => Det.ret _
theorem fdK_det (off : Nat) (g : Bool) (n : Nat) (x : AV) : Det (fdK off g n x) := Det.on_a fun _ => Det.bool g (lgetK_det _ _) (Det.ret _)
theorem lightD_det (P : Program) (op : Op) (f : Operand → AV) (h : Hp) : Det (fun k => lightD P op f h k) := by
  cases op <;> (try exact Det.fail)
  case move x => exact Det.ret _
  case assign x => exact Det.ret _
  case pick c a b => exact Det.on_b fun _ => Det.ret _
  case build t parts =>
    simp only [lightD]
    cases bldOk P t with
    | false => exact Det.fail
    | true => cases plc P t (zeroCs P t).length f parts.toList with
      | none => exact Det.fail
      | some ps => exact blK_det _ _
  case load t a =>
    simp only [lightD]
    rcases aggOf P t with _ | ⟨_ | _, n⟩
    · exact Det.fail
    · exact det_on_p fun _ _ => det_on fun _ _ _ => det_ifT (Det.ret _)
    · exact det_on_p fun _ _ => det_on fun _ _ _ => det_ifT (Det.ret _)
  case nilCheck x => exact det_on_p fun _ _ => Det.ret _
  case binOp op t x y yt => exact bopD_det _ _ _ _ _ _ _
  case unOp op t x =>
    cases op
    case neg => exact Det.on_i fun _ _ => Det.natK _ fun _ => Det.ret _
    case xor => exact Det.on_i fun _ _ => ibK_det _ _ _ _
    case not => exact Det.on_b fun _ => Det.ret _
    case plus => exact Det.fail
  case convert s t x => exact cnvD_det _ _ _ _ _
  case makeInterface t x =>
    simp only [lightD]
    cases notI P t with
    | false => exact Det.fail
    | true => exact Det.ret _
  case makeFunc fn first captured => cases fn <;> first | exact Det.fail | exact Det.ret _
  case slice t x lo hi mx =>
    simp only [lightD]
    rcases P.underlying t with _ | d
    · exact Det.fail
    · cases d <;> dsimp only <;> (try exact Det.fail)
      case string => exact slsK_det _ _ _ _
      case slice e => cases szOf P e with
        | none => exact Det.fail
        | some sz => exact sllK_det _ _ _ _ _
      case array n e => cases szOf P e with
        | none => exact Det.fail
        | some sz => cases mx with
          | none => exact sapK_det _ _ _ _ _
          | some m => exact Det.fail
  case fieldAddr s x i =>
    simp only [lightD]
    cases faOf P s i with
    | none => exact Det.fail
    | some off => exact det_on_p fun _ _ => Det.ret _
  case field s x i =>
    simp only [lightD]
    rcases fdOf P s i with _ | ⟨off, g, n⟩
    · exact Det.fail
    · exact fdK_det _ _ _ _
  case indexAddr t x i =>
    simp only [lightD]
    rcases P.underlying t with _ | d
    · exact Det.fail
    · cases d <;> dsimp only <;> (try exact Det.fail)
      case slice e => cases szOf P e with
        | none => exact Det.fail
        | some sz => exact iaK_det _ _ _
      case array n e => cases szOf P e with
        | none => exact Det.fail
        | some sz => exact iapK_det _ _ _ _
  case index t x i =>
    simp only [lightD]
    rcases P.underlying t with _ | d
    · exact Det.fail
    · cases d <;> dsimp only <;> (try exact Det.fail)
      case string => exact ixK_det _ _
  case lookup t m x ok =>
    simp only [lightD]
    rcases mapOf P t with _ | ⟨kt, et⟩
    · exact Det.fail
    · dsimp only
      cases kdOf P kt with
      | none => exact Det.fail
      | some str => cases (P.info? et).bind (·.zero) with
        | none => exact Det.fail
        | some z => exact lkK_det _ _ _ _ _ _
  case typeAssert x xt asL ok =>
    simp only [lightD]
    cases notI P asL with
    | false => exact Det.fail
    | true => cases (P.info? asL).bind (·.zero) with
      | none => exact Det.fail
      | some z => cases ok with
        | false => exact Det.fail
        | true => exact taK_det _ _ _
  case extract x i => exact Det.on_t fun _ => lgetK_det _ _
  case call c =>
    obtain ⟨callee, args, ts⟩ := c
    cases callee <;> first | exact Det.fail | exact bltD_det _ _ _ _ _
end Go.Proofs.YtmddhlfjilkdfaaGreatDoor
namespace Go.Proofs.YtmddhlfjilkdfaaGreatDoor
set_option linter.unusedVariables false
set_option linter.unusedSimpArgs false

theorem nbK_det (ty m : Nat) (cs : List AV) (h : Hp) : Det2 (nbK ty m cs h) := (setL_det cs .z 0).to2 fun _ => Det2.setK _ _ _ fun _ => Det2.succK _ fun _ => Det2.ret _ _
theorem stL_det (m : Nat) (x y : AV) (h : Hp) : Det (stL m x y h) := det_on_p fun _ _ => (cellsK_det y m).bind fun cs => det_on fun _ _ v => det_ifT ((setL_det cs v _).bind fun _ => Det.setK _ _ _ fun _ => Det.ret _)
theorem boxK_det (ty m : Nat) (x : AV) (h : Hp) : Det2 (boxK ty m x h) := (cellsK_det x m).to2 fun cs => (nbK_det ty m cs h).bind2 fun _ _ => Det2.ret _ _
theorem bsK_det (el sz n m : Nat) (xs : List AV) (h : Hp) : Det2 (bsK el sz n m xs h) := (catK_det sz xs).to2 fun cs => (nbK_det el m cs h).bind2 fun _ _ => Det2.ret _ _
theorem sb2K_det (el : Nat) (x : AV) (h : Hp) : Det2 (sb2K el x h) := Det2.on_s fun n l => det2_ifT <| (nbK_det el n (List.map byteAV l) h).bind2 fun _ _ => Det2.ret _ _
theorem mmD_det (h : Hp) : Det2 (mmD h) := Det2.setK _ _ _ fun _ => Det2.succK _ fun _ => Det2.ret _ _
theorem rsD_det (x : AV) (h : Hp) : Det2 (rsD x h) := Det2.on_s fun _ _ => Det2.setK _ _ _ fun _ => Det2.succK _ fun _ => Det2.ret _ _
theorem nsD_det (x : AV) (h : Hp) : Det2 (nsD x h) := by
  refine det2_on_p fun q o => det2_ifT (Det2.onS fun pos l => ?_)
  cases l with
  | nil => exact Det2.ret _ _
  | cons b t => exact det2_ifT (Det2.natK _ fun _ => Det2.setK _ _ _ fun _ => Det2.ret _ _)
theorem muD_det (s : Bool) (m x z : AV) (h : Hp) : Det (muD s m x z h) := Det.on_m fun _ => Det.onM fun es => (muK_det s x z es).bind fun _ => Det.setK _ _ _ fun _ => Det.ret _
theorem mdD_det (s : Bool) (m x : AV) (h : Hp) : Det (mdD s m x h) := Det.on_m fun _ => Det.onM fun es => (mdK_det s x es).bind fun _ => Det.setK _ _ _ fun _ => Det.ret _
theorem bK_det (o : Nat) (v : V) (m : Nat) (cs : List AV) : Det (bK o v m cs) := Det.bool _ (setL_det _ _ _) (setL_det _ _ _)
theorem srcK_det {α β : Type} (sz : Nat) (y : AV) (h : Hp) (g : Nat → List AV → (α → β → Bool) → Bool) (hg : ∀ n cs, Det2 (g n cs)) : Det2 (fun k => srcK sz y h fun n cs => g n cs k) := by
  cases y <;> first | exact Det2.fail | exact hg _ _ | exact det2_ifT (hg _ _) | exact det2_on fun _ _ _ => det2_ifT (hg _ _)
theorem apK_det (el sz : Nat) (x y : AV) (h : Hp) : Det2 (apK el sz x y h) := by
  refine srcK_det sz y h _ fun n cs => ?_
  cases x <;> first | exact Det2.fail | skip
  case ns => exact Det2.bool _ (det2_ifT ((nbK_det _ _ _ _).bind2 fun _ _ => Det2.ret _ _)) (Det2.ret _ _)
  case se => exact Det2.bool _ Det2.fail (Det2.ret _ _)
  case sl q o len c =>
    refine Det2.bool _ (det2_ifT (det2_on fun ty m v => ?_)) (Det2.ret _ _)
    cases c with
    | k cc => exact Det2.bool _ (det2_ifT ((bK_det _ _ _ _).to2 fun _ => Det2.setK _ _ _ fun _ => Det2.succK _ fun _ => Det2.ret _ _)) (det2_ifT ((setL_det _ _ _).to2 fun _ => Det2.setK _ _ _ fun _ => Det2.ret _ _))
    | u d b => exact Det2.bool _ (det2_ifT (det2_ifT (det2_ifT ((bK_det _ _ _ _).to2 fun _ => Det2.setK _ _ _ fun _ => Det2.setK _ _ _ fun _ => Det2.succK _ fun _ => Det2.ret _ _)))) (det2_ifT ((setL_det _ _ _).to2 fun _ => Det2.setK _ _ _ fun _ => Det2.ret _ _))
theorem sb2Y_det (el : Nat) (x : AV) (h : Hp) : Det2 (sb2Y el x h) := Det2.yK (x := x) (α := AV) (β := Hp) (g := sb2K el x h) (f := fun s k => s.on_os fun i => HT.setK (.y (.op i)) h.nx h.t fun t' => h.nx.succK fun n' => k (.y (.so h.nx i)) (Hp.mk t' n')) (fun s => Det2.on_os fun i => Det2.setK _ _ _ fun _ => Det2.succK _ fun _ => Det2.ret _ _) (sb2K_det el x h)
theorem srcY_det {α β : Type} (y : AV) (h : Hp) (g : Nat → Nat → (α → β → Bool) → Bool) (hg : ∀ a b, Det2 (g a b)) : Det2 (fun k => srcY y h fun a b => g a b k) := by
  refine Det2.yK (f := fun s k => Sy.casesOn (motive := fun _ => Bool) s (fun i => g (syLo i) (syHi i) k) (fun _ _ _ => false) (fun q i => (HT.getR q h.t).onY fun o => o.on_op fun j => ifT (Nat.beq i j) (g (syLo i) (syHi i) k)) (fun q a b => (HT.getR q h.t).onY fun o => o.on_soup fun _ => g a b k)) (g := fun k => srcK 1 y h fun n cs => bytesK cs fun _ => g n n k) (fun s => ?_) ?_
  · cases s with
    | os i => exact hg _ _
    | iv => exact Det2.fail
    | so q i => exact Det2.onY fun o => Det2.on_op fun j => det2_ifT (hg _ _)
    | su q a b => exact Det2.onY fun o => Det2.on_soup fun _ => hg _ _
  · exact srcK_det 1 y h (fun n cs k => bytesK cs fun _ => g n n k) fun n cs => (bytesK_det cs).to2 fun _ => hg n n
theorem dstY_det {α β : Type} (el : Nat) (x : AV) (h : Hp) (g : HT → Nat → Nat → Nat → (α → β → Bool) → Bool) (hg : ∀ t a b c, Det2 (g t a b c)) : Det2 (fun k => dstY el x h fun t a b c => g t a b c k) := by
  cases x <;> first | exact Det2.fail | exact hg _ _ _ _ | skip
  case sl q o n c =>
    cases c with
    | k => exact Det2.fail
    | u d b => exact det2_ifT (det2_ifT (det2_on fun ty m v => det2_ifT (det2_ifT ((bytesK_det _).to2 fun _ => Det2.setK _ _ _ fun _ => hg _ _ _ _))))
  case y s =>
    cases s with
    | su q a b => exact Det2.onY fun o => Det2.on_soup fun _ => det2_ifT (Det2.setK _ _ _ fun _ => hg _ _ _ _)
    | _ => exact Det2.fail
theorem suK_det (el : Nat) (t0 : HT) (a b : Nat) (h : Hp) : Det2 (suK el t0 a b h) := Det2.setK _ _ _ fun _ => Det2.succK _ fun _ => Det2.ret _ _
theorem apS_det (el : Nat) (x y : AV) (h : Hp) : Det2 (apS el x y h) :=
  srcY_det y h (fun a b k => dstY el x h fun t0 c d need => ifT (Nat.ble need a) (ifT (Nat.ble (Nat.add b d) 1000000) (natK (Nat.add a c) fun lo => natK (Nat.add b d) fun hi => suK el t0 lo hi h k))) fun a b =>
    dstY_det el x h (fun t0 c d need k => ifT (Nat.ble need a) (ifT (Nat.ble (Nat.add b d) 1000000) (natK (Nat.add a c) fun lo => natK (Nat.add b d) fun hi => suK el t0 lo hi h k))) fun t0 c d need =>
      det2_ifT (det2_ifT (Det2.natK _ fun _ => Det2.natK _ fun _ => suK_det _ _ _ _ _))
theorem apY_det (el sz : Nat) (x y : AV) (h : Hp) : Det2 (apY el sz x y h) :=
  Det2.yK (α := AV) (f := fun _ k => ifT (Nat.beq sz 1) (apS el x y h k)) (g := fun k => y.yK (fun _ => ifT (Nat.beq sz 1) (apS el x y h k)) (apK el sz x y h k)) (fun _ => det2_ifT (apS_det el x y h)) (Det2.yK (α := AV) (f := fun _ k => ifT (Nat.beq sz 1) (apS el x y h k)) (fun _ => det2_ifT (apS_det el x y h)) (apK_det el sz x y h))
theorem clD_det (sz : Nat) (zc : List AV) (x : AV) (h : Hp) : Det (clD sz zc x h) := by
  cases x <;> first | exact Det.fail | exact Det.ret _ | skip
  case sl q o n c => exact Det.bool _ (det_on fun _ _ _ => det_ifT ((setL_det _ _ _).bind fun _ => Det.setK _ _ _ fun _ => Det.ret _)) (Det.ret _)
theorem ivK_det {P : Program} {T : Tbl} (hT : SoundT P T) (M : List (Nat × Nat)) (x : AV) (args : List AV) (h : Hp) : Det2 (ivK M T x args h) := by
  refine Det2.on_e fun t v => ?_
  induction M with
  | nil => exact Det2.fail
  | cons m M ih => exact Det2.bool _ ih (Tbl.get_det hT _ _ _)
theorem callD_det {P : Program} {T : Tbl} (hT : SoundT P T) (M : List (Nat × Nat)) (c : Callee) (ts : List TypeId) (args : List AV) (f : Operand → AV) (h : Hp) : Det2 (fun k => callD P T M c ts args f h k) := by
  cases c with
  | builtin b =>
    cases b <;> (try exact Det2.fail)
    case append =>
      rcases ts with _ | ⟨t, _ | ⟨u, _ | ⟨t3, ts⟩⟩⟩ <;> (try exact Det2.fail)
      rcases args with _ | ⟨x, _ | ⟨y, _ | ⟨z, args⟩⟩⟩ <;> (try exact Det2.fail)
      simp only [callD]
      cases sliceOf P t with
      | none => exact Det2.fail
      | some e =>
        dsimp only
        cases szOf P e with
        | none => exact Det2.fail
        | some sz =>
          dsimp only
          cases elemOk P e sz && isSeq P u with
          | false => exact Det2.fail
          | true => exact apY_det _ _ _ _ _
    case clear =>
      rcases ts with _ | ⟨t, _ | ⟨u, ts⟩⟩ <;> (try exact Det2.fail)
      rcases args with _ | ⟨x, _ | ⟨y, args⟩⟩ <;> (try exact Det2.fail)
      simp only [callD]
      cases sliceOf P t with
      | none => exact Det2.fail
      | some e =>
        dsimp only
        cases szOf P e with
        | none => exact Det2.fail
        | some sz =>
          dsimp only
          cases elemOk P e sz && ((P.info? e).bind (·.zero)).any (fun z => z.cells.toList.all Value.oneCell') with
          | false => exact Det2.fail
          | true => exact (clD_det _ _ _ _).to2 fun _ => Det2.ret _ _
    case delete =>
      rcases ts with _ | ⟨t, _ | ⟨u, _ | ⟨t3, ts⟩⟩⟩ <;> (try exact Det2.fail)
      rcases args with _ | ⟨x, _ | ⟨y, _ | ⟨z, args⟩⟩⟩ <;> (try exact Det2.fail)
      simp only [callD]
      rcases mapOf P t with _ | ⟨kt, et⟩
      · exact Det2.fail
      · dsimp only
        cases kdOf P kt with
        | none => exact Det2.fail
        | some str => exact (mdD_det _ _ _ _).to2 fun _ => Det2.ret _ _
  | value v => cases v <;> first | exact Tbl.get_det hT _ _ _ | exact Det2.on_f fun _ _ _ => Tbl.get_det hT _ _ _
  | invoke r name =>
    simp only [callD]
    cases M.all (methOk P name) with
    | false => exact Det2.fail
    | true => exact ivK_det hT _ _ _ _
theorem heavyD_det {P : Program} {T : Tbl} (hT : SoundT P T) (M : List (Nat × Nat)) (op : Op) (f : Operand → AV) (h : Hp) : Det2 (fun k => heavyD P T M op f h k) := by
  cases op <;> (try exact Det2.fail)
  case alloc t =>
    simp only [heavyD]
    cases (P.info? t).bind (·.zero) with
    | none => exact Det2.fail
    | some z => exact boxK_det _ _ _ _
  case box t x => exact boxK_det _ _ _ _
  case buildSlice t n parts =>
    simp only [heavyD]
    cases sliceOf P t with
    | none => exact Det2.fail
    | some e =>
      dsimp only
      cases szOf P e with
      | none => exact Det2.fail
      | some sz =>
        dsimp only
        cases elemOk P e sz && dense 0 parts.toList && Nat.beq parts.toList.length n && Nat.ble (Nat.mul n sz) 1000000 with
        | false => exact Det2.fail
        | true => exact bsK_det _ _ _ _ _ _
  case insert t m x z =>
    simp only [heavyD]
    rcases mapOf P t with _ | ⟨kt, et⟩
    · exact Det2.fail
    · dsimp only
      cases kdOf P kt with
      | none => exact Det2.fail
      | some str => exact (muD_det _ _ _ _ _).to2 fun _ => Det2.ret _ _
  case mapUpdate t m x z =>
    simp only [heavyD]
    rcases mapOf P t with _ | ⟨kt, et⟩
    · exact Det2.fail
    · dsimp only
      cases kdOf P kt with
      | none => exact Det2.fail
      | some str => exact (muD_det _ _ _ _ _).to2 fun _ => Det2.ret _ _
  case store t x z =>
    simp only [heavyD]
    rcases aggOf P t with _ | ⟨g, n⟩
    · exact Det2.fail
    · exact (stL_det _ _ _ _).to2 fun _ => Det2.ret _ _
  case convert s t x =>
    simp only [heavyD]
    cases isStr P s with
    | false => exact Det2.fail
    | true => cases sliceOf P t with
      | none => exact Det2.fail
      | some e =>
        dsimp only
        cases u8Of P e with
        | false => exact Det2.fail
        | true => exact sb2Y_det _ _ _
  case makeMap t r => cases r with
    | none => exact mmD_det _
    | some r => exact Det2.fail
  case range t x =>
    simp only [heavyD]
    cases isStr P t with
    | false => exact Det2.fail
    | true => exact rsD_det _ _
  case next x b => cases b with
    | false => exact Det2.fail
    | true => exact nsD_det _ _
  case call c => exact callD_det hT M _ _ _ f h
theorem opD_det {P : Program} {T : Tbl} (hT : SoundT P T) (M : List (Nat × Nat)) (op : Op) (f : Operand → AV) (h : Hp) : Det2 (fun k => opD P T M op f h k) := by
  simp only [opD]
  cases isHeavy P op with
  | true => exact heavyD_det hT M op f h
  | false => exact (lightD_det P op f h).to2 (g := fun y k => k y h) fun y => Det2.ret y h
theorem gdK_det {α β : Type} (x : AV) (want : Bool) {f : (AV → Hp → Bool) → Bool} {g : AV → Hp → (α → β → Bool) → Bool} (h : Hp) (hf : Det2 f) (hg : ∀ y h, Det2 (g y h)) : Det2 (fun k => gdK x want f (fun y h' => g y h' k) h) := by
  cases x <;> first | exact Det2.fail | exact hg _ _ | exact Det2.bool _ (hg _ _) (hf.bind2 hg)
theorem gopD_det {P : Program} {T : Tbl} (hT : SoundT P T) (M : List (Nat × Nat)) (all : List Oper) (o : Oper) (env : List AV) (h : Hp) : Det2 (fun k => gopD P T M all o env h k) := by
  simp only [gopD]
  rcases o.guard with _ | ⟨j, want⟩
  · exact opD_det hT M _ _ _
  · dsimp only
    cases (all[j]?).bind (·.dst) with
    | none => exact Det2.fail
    | some d => exact gdK_det _ _ h (opD_det hT M _ _ _) (g := fun y h' k => k y h') fun y h' => Det2.ret y h'
end Go.Proofs.YtmddhlfjilkdfaaGreatDoor
namespace Go.Proofs.YtmddhlfjilkdfaaGreatDoor
set_option linter.unusedVariables false
set_option linter.unusedSimpArgs false

section
variable {P : Program} {ρ : Q → Loc} {h : Hp} {w : World} {B : Nat} {T : Tbl} {M : List (Nat × Nat)}
theorem rel_fn (ρ : Q → Loc) (N : Nat) (f : Nat) : Rel ρ N (.f f [] []) (.func (.func f) #[] #[]) := .f f [] [] [] [] .nil .nil
theorem evA_rel {N : Nat} {env : List AV} {a : Act} {x : Operand} (hx : ∀ t ∈ opT x, Rel ρ N (env.getD t .d) (a.tmps.getD t undef)) : Rel ρ N (evA env x) (a.eval x) := by
  cases x with
  | tmp t => exact hx t (by simp [opT])
  | const v => exact cva_rel _ _ _
  | global g => exact .d _
  | func f => exact rel_fn _ _ _
theorem opD_sound (E : Emb P ρ h w B) (hT : SoundT P T) (o : Oper) {f : Operand → AV} {a : Act} (hfg : ∀ x ∈ o.op.operands, Rel ρ h.nx.num (f x) (a.eval x)) {k : AV → Hp → Bool} (hk : opD P T M o.op f h k = true) {next : Act → World → Prop} (H : Nx P ρ h w B o a next k) {QQ : Exit → Act → World → Prop} : o.wp P a w next QQ := by
  unfold opD at hk
  split at hk
  · exact heavyD_sound E hT o hfg hk H
  · obtain ⟨y, v, h1, h2, h3⟩ := lightD_sound E o hfg hk
    exact wp_of_value h1 (H y v w ρ h E (Step.refl _ _ _) h2 h3)
/-- The temporaries that an operation looks at. -/
def seenT (all : List Oper) (o : Oper) : List Nat := o.op.operands.toList.flatMap opT ++ match o.guard with
  | none => []
  | some (j, _) => ((all[j]?).bind (·.dst)).toList
theorem gopD_sound (E : Emb P ρ h w B) (hT : SoundT P T) (ops : Array Oper) (o : Oper) {env : List AV} {a : Act} (hn : ∀ t ∈ seenT ops.toList o, Rel ρ h.nx.num (env.getD t .d) (a.tmps.getD t undef)) {k : AV → Hp → Bool} (hk : gopD P T M ops.toList o env h k = true) {next : Act → World → Prop} (H : Nx P ρ h w B o a next k) {QQ : Exit → Act → World → Prop} :
    if Region.wanted o (yielded ops a.tmps) then o.wp P a w next QQ else next (a.put o.dst undef) w := by
  have hfg : ∀ x ∈ o.op.operands, Rel ρ h.nx.num (evA env x) (a.eval x) := fun x hx => evA_rel fun t ht => hn t (by
    unfold seenT
    exact List.mem_append_left _ (List.mem_flatMap.2 ⟨x, by simpa using hx, ht⟩))
  unfold gopD at hk
  cases hg : o.guard with
  | none =>
    rw [hg] at hk
    have hw : Region.wanted o (yielded ops a.tmps) = true := by simp [Region.wanted, hg]
    rw [if_pos hw]
    exact opD_sound E hT o hfg hk H
  | some jw =>
    obtain ⟨j, want⟩ := jw
    rw [hg] at hk
    dsimp only at hk
    cases hd : (ops.toList[j]?).bind (·.dst) with
    | none => rw [hd] at hk; cases hk
    | some d =>
      rw [hd] at hk
      dsimp only at hk
      have hrel := hn d (by
        unfold seenT
        rw [hg]
        exact List.mem_append_right _ (by simp only [hd]; simp))
      have hd' : (ops[j]?).bind (·.dst) = some d := by rw [← Array.getElem?_toList]; exact hd
      have hskip : (∀ b, a.tmps[d]? ≠ some (.bool b)) → k (.t []) h = true → (if Region.wanted o (yielded ops a.tmps) then o.wp P a w next QQ else next (a.put o.dst undef) w) := fun hnb hk => by
        have hw : Region.wanted o (yielded ops a.tmps) = false := by
          simp only [Region.wanted, hg, yielded, hd', Option.bind_some]
          cases ht : a.tmps[d]? with
          | none => rfl
          | some v => cases v <;> first | rfl | exact (hnb _ ht).elim
        rw [hw]
        exact H _ _ w ρ h E (Step.refl _ _ _) (rel_unit _ _) hk
      generalize env.getD d .d = x at hk hrel
      generalize hv : a.tmps.getD d undef = tv at hrel
      rw [Array.getD_eq_getD_getElem?] at hv
      cases x <;> first | (cases hk; done) | skip
      case b y =>
        have ht : a.tmps[d]? = some (.bool y) := by
          cases hrel
          cases ht : a.tmps[d]? with
          | none => rw [ht] at hv; cases hv
          | some v => rw [ht] at hv; exact congrArg some hv
        have hk : Bool.casesOn (motive := fun _ => Bool) (sameB y want) (k (.t []) h) (opD P T M o.op (evA env) h k) = true := hk
        cases hs : sameB y want with
        | true =>
          rw [hs] at hk
          rw [sameB_eq] at hs
          have hw : Region.wanted o (yielded ops a.tmps) = true := by simp only [Region.wanted, hg, yielded, hd', Option.bind_some, ht]; simpa using hs
          rw [if_pos hw]
          exact opD_sound E hT o hfg hk H
        | false =>
          rw [hs] at hk
          rw [sameB_eq] at hs
          have hw : Region.wanted o (yielded ops a.tmps) = false := by
            simp only [Region.wanted, hg, yielded, hd', Option.bind_some, ht]
            simpa using hs
          rw [hw]
          exact H _ _ w ρ h E (Step.refl _ _ _) (rel_unit _ _) hk
      case t cs =>
        refine hskip (fun b ht => ?_) hk
        cases hrel
        rw [ht] at hv
        cases hv
/-- What is to be shown of a text's end. -/
def KN (P : Program) (L : Nat) (ρ : Q → Loc) (h : Hp) (w : World) (B : Nat) (k : List AV → Hp → Bool) (N : Act → World → Prop) : Prop :=
  ∀ env' h' ρ' w' a', Emb P ρ' h' w' B → Step ρ h w ρ' h' w' → Env ρ' h'.nx.num env' a' → env'.length = L → k env' h' = true → N a' w'
theorem KN.step {L : Nat} {k : List AV → Hp → Bool} {N : Act → World → Prop} {ρ1 : Q → Loc} {h1 : Hp} {w1 : World} (H : KN P L ρ h w B k N) (s : Step ρ h w ρ1 h1 w1) : KN P L ρ1 h1 w1 B k N := fun env' h' ρ' w' a' E s' en hl hk => H env' h' ρ' w' a' E (s.trans s') en hl hk
theorem Env.setP {N : Nat} {env : List AV} {a : Act} (h : Env ρ N env a) (d : Option Nat) {x : AV} {v : Value} (hx : Rel ρ N x v) : Env ρ N (setP d x env) (a.put d v) := by
  cases d with
  | none => exact h.put_none v
  | some d => exact h.put d hx
theorem setP_length (d : Option Nat) (x : AV) (env : List AV) : (setP d x env).length = env.length := by
  cases d with
  | none => rfl
  | some d => exact List.length_set
theorem opsD_sound (hT : SoundT P T) (ops : Array Oper) {QQ : Exit → Act → World → Prop} {L : Nat} : ∀ (l : List Oper) {env : List AV} {a : Act} {ρ : Q → Loc} {h : Hp} {w : World} {k : List AV → Hp → Bool}, Emb P ρ h w B → Env ρ h.nx.num env a → env.length = L → opsD P T M ops.toList l env h k = true → KN P L ρ h w B k (QQ .normal) → wpList P ops QQ l a w
  | [], env, a, ρ, h, w, k, E, en, hl, hk, H => H env h ρ w a E (Step.refl _ _ _) en hl hk
  | o :: l, env, a, ρ, h, w, k, E, en, hl, hk, H => by
    have hk : gopD P T M ops.toList o env h (fun y h' => setO o.dst y env fun env' => opsD P T M ops.toList l env' h' k) = true := hk
    have := gopD_sound (QQ := QQ) (next := wpList P ops QQ l) E hT ops o (fun t _ => en.tmp t) hk (fun y v w' ρ' h' E' s' r' hk' => by
      dsimp only at hk'
      rw [setO_eq] at hk'
      exact opsD_sound hT ops l E' ((en.mono s'.ext s'.nx).setP o.dst r') ((setP_length _ _ _).trans hl) hk' (H.step s'))
    unfold wpList
    split
    · rename_i hw; rw [if_pos hw] at this; exact .inl this
    · rename_i hw; rw [if_neg hw] at this; exact this
end
end Go.Proofs.YtmddhlfjilkdfaaGreatDoor
namespace Go.Proofs.YtmddhlfjilkdfaaGreatDoor
set_option linter.unusedVariables false
set_option linter.unusedSimpArgs false

/-- A drawn region does what is evaluated, in whatever order. -/
def DrawS (P : Program) (T : Tbl) (M : List (Nat × Nat)) : Prop := ∀ (ops : Array Oper) (ord : List Nat) (env : List AV) (a : Act) (ρ : Q → Loc) (h : Hp) (w : World) (B L : Nat) (k : List AV → Hp → Bool) (QQ : Exit → Act → World → Prop),
  Emb P ρ h w B → Env ρ h.nx.num env a → env.length = L → drawD P T M ops.toList ord env h k = true → KN P L ρ h w B k (QQ .normal) → wpAny P .any ops QQ ops.size (Array.replicate ops.size false) a w
section
variable {P : Program} {ρ : Q → Loc} {h : Hp} {w : World} {B : Nat} {T : Tbl} {M : List (Nat × Nat)}
theorem Emb.drawn (E : Emb P ρ h w B) (n : Nat) : Emb P ρ h { w with drawn := n } B :=
  ⟨E.base, E.lt, E.ge, E.inj, fun q ty m v hg => RowE.mono (w := w) (fun _ _ => rfl) (Nat.le_refl _) rfl (E.row q ty m v hg), fun q es hg => MapAt.mono (w := w) (fun _ _ => rfl) (Nat.le_refl _) rfl (E.map q es hg), fun q o l hg => SiAt.mono (w := w) rfl (E.si q o l hg), fun q i hg => ⟨(E.op q i hg).1, OpAt.mono (w := w) (fun _ _ => rfl) (E.op q i hg).1 rfl (E.op q i hg).2⟩, fun q ty hg => SoupAt.mono (w := w) rfl (E.soup q ty hg), E.tab.mono fun _ _ => rfl⟩
theorem Step.drawn (ρ : Q → Loc) (h : Hp) (w : World) (n : Nat) : Step ρ h w ρ h { w with drawn := n } := ⟨fun _ _ => rfl, Nat.le_refl _, Nat.le_refl _, fun _ _ _ => rfl, fun q hq => .inl ⟨q, hq, rfl⟩, rfl, rfl, rfl⟩
def Ex.to : Ex → Exit
  | .n => .normal
  | .x i => .exit i
  | .r => .ret
/-- What is to be shown of a text's ends. -/
def KS (P : Program) (L : Nat) (ρ : Q → Loc) (h : Hp) (w : World) (B : Nat) (K : Kt) (QQ : Exit → Act → World → Prop) : Prop :=
  ∀ e env' h' ρ' w' a', Emb P ρ' h' w' B → Step ρ h w ρ' h' w' → Env ρ' h'.nx.num env' a' → env'.length = L → K e env' h' = true → QQ e.to a' w'
theorem KS.step {L : Nat} {K : Kt} {QQ : Exit → Act → World → Prop} {ρ1 : Q → Loc} {h1 : Hp} {w1 : World} (H : KS P L ρ h w B K QQ) (s : Step ρ h w ρ1 h1 w1) : KS P L ρ1 h1 w1 B K QQ := fun e env' h' ρ' w' a' E s' en hl hk => H e env' h' ρ' w' a' E (s.trans s') en hl hk
theorem beK_spec (e0 : List AV) : ∀ (W : List Nat) (env : List AV) (k : List AV → Bool), beK W (sel W e0) env k = true → ∃ env', k env' = true ∧ env'.length = env.length ∧ ∀ t, env'.getD t .d = env.getD t .d ∨ env'.getD t .d = e0.getD t .d
  | [], env, k, hk => ⟨env, hk, rfl, fun _ => .inl rfl⟩
  | i :: W, env, k, hk => by
    have hk : lsK (e0.getD i .d) env i (fun env' => beK W (sel W e0) env' k) = true := hk
    rw [lsK_eq] at hk
    obtain ⟨env', h1, h2, h3⟩ := beK_spec e0 W _ k hk
    refine ⟨env', h1, h2.trans List.length_set, fun t => ?_⟩
    rcases h3 t with e | e
    · rw [e]
      by_cases hit : i = t
      · subst hit
        by_cases hl : i < env.length
        · right; simp [List.getD_eq_getElem?_getD, hl]
        · left; simp [List.getD_eq_getElem?_getD, List.set_eq_of_length_le (Nat.le_of_not_lt hl)]
      · left; simp [List.getD_eq_getElem?_getD, List.getElem?_set_ne hit]
    · exact .inr e
theorem met_sound {N n : Nat} {W : List Nat} {f : List AV → Hp → Bool} {e0 : List AV} {a : Act} (en : Env ρ n e0 a) (hl : e0.length = N) {h : Hp} (hk : capp W.length (clam W.length fun vals h => beK W vals (List.replicate N .d) fun env => f env h) (sel W e0) h = true) : ∃ env', f env' h = true ∧ env'.length = N ∧ Env ρ n env' a := by
  obtain ⟨_, hk2⟩ := capp_clam _ _ _ _ hk
  obtain ⟨env', h1, h2, h3⟩ := beK_spec e0 W _ _ hk2
  rw [List.length_replicate] at h2
  refine ⟨env', h1, h2, ⟨by rw [h2, ← hl]; exact en.size, fun i hi => ?_, en.defers⟩⟩
  rcases h3 i with e | e
  · rw [e]
    have : (List.replicate N AV.d).getD i .d = .d := by
      rw [List.getD_eq_getElem?_getD]
      by_cases hN : i < N
      · rw [List.getElem?_replicate, if_pos hN]; rfl
      · rw [List.getElem?_replicate, if_neg hN]; rfl
    rw [this]
    exact .d _
  · rw [e]; exact en.tmp i
theorem cdK_spec {x : AV} {a b : Bool} (hk : cdK x a b = true) : ∃ c, x = .b c ∧ (if c then a else b) = true := by
  obtain ⟨c, rfl, hk⟩ := AV.on_b_spec hk
  cases c <;> exact ⟨_, rfl, hk⟩
/-- A loop whose rounds are counted down. -/
theorem wp_loop_fuel {c : Code} {QQ : Exit → Act → World → Prop} (I : Nat → Act → World → Prop) (round : ∀ m a w, I m a w → c.wp P (Exit.then (fun a' w' => ∃ m', m' < m ∧ I m' a' w') QQ) a w) {m : Nat} {a : Act} {w : World} (h0 : I m a w) : (Code.loop c).wp P QQ a w := by
  intro b k cs
  have key : ∀ m a w, I m a w → ∃ e a' w', QQ e a' w' ∧ Arrives P (lone (b.at a (.code c :: .inLoop c :: k)) cs w) b k cs e a' w' := by
    intro m
    induction m using Nat.strongRecOn with
    | _ m ih =>
      intro a w hI
      obtain ⟨e, a₁, w₁, hq, harr⟩ := round m a w hI b (.inLoop c :: k) cs
      cases e with
      | normal =>
        obtain ⟨m', hlt, hI₁⟩ := hq
        obtain ⟨e₂, a₂, w₂, hq₂, harr₂⟩ := ih m' hlt a₁ w₁ hI₁
        exact ⟨e₂, a₂, w₂, hq₂, .of_steps (Steps.trans harr (.one step_inLoop)) harr₂⟩
      | exit id => exact ⟨_, a₁, w₁, hq, .pass (x := .inLoop c) rfl (fun _ _ => .inl (by simp)) harr⟩
      | goto l => exact ⟨_, a₁, w₁, hq, .pass (x := .inLoop c) rfl (fun _ _ => .inl (by simp)) harr⟩
      | ret => exact ⟨_, a₁, w₁, hq, .pass (x := .inLoop c) rfl (fun _ _ => .inl (by simp)) harr⟩
      | panic ch => exact ⟨_, a₁, w₁, hq, .pass (x := .inLoop c) rfl (fun _ _ => .inl (by simp)) harr⟩
      | outgrown => exact ⟨_, a₁, w₁, hq, .pass (x := .inLoop c) rfl (fun _ _ => .inl (by simp)) harr⟩
  obtain ⟨e, a', w', hq, harr⟩ := key m a w h0
  exact ⟨e, a', w', hq, .of_steps (.one step_loop) harr⟩
theorem den_sound (hm : P.follows .mixedOrders = true) (hT : SoundT P T) (HD : DrawS P T M) {N : Nat} : ∀ (c : Code) {ann : Ann} {K : Kt} {env : List AV} {a : Act} {ρ : Q → Loc} {h : Hp} {w : World} {QQ : Exit → Act → World → Prop},
    Emb P ρ h w B → Env ρ h.nx.num env a → env.length = N → den P T M N c ann K env h = true → KS P N ρ h w B K QQ → c.wp P QQ a w := by
  intro c
  induction c with
  | skip => intro ann K env a ρ h w QQ E en hl hk H; exact wp_skip (H .n env h ρ w a E (Step.refl _ _ _) en hl hk)
  | region id ops draw =>
    intro ann K env a ρ h w QQ E en hl hk H
    cases draw with
    | false =>
      have hk : opsD P T M ops.toList ops.toList env h (K .n) = true := hk
      exact wp_region_list (opsD_sound hT ops ops.toList E en hl hk fun env' h' ρ' w' a' E' s' en' hl' hk' => H .n env' h' ρ' w' a' E' s' en' hl' hk')
    | true =>
      cases ann <;> first | (cases hk; done) | skip
      case g ord =>
        have hk : drawD P T M ops.toList ord env h (K .n) = true := hk
        exact wp_region_any hm (HD ops ord env a ρ h _ B N (K .n) QQ (E.drawn _) en hl hk fun env' h' ρ' w' a' E' s' en' hl' hk' => H .n env' h' ρ' w' a' E' ((Step.drawn ρ h w _).trans s') en' hl' hk')
  | seq x y ihx ihy =>
    intro ann K env a ρ h w QQ E en hl hk H
    cases ann <;> first | (cases hk; done) | skip
    case s ax ay =>
      have hk : den P T M N x ax (seqK (den P T M N y ay K) K) env h = true := hk
      refine wp_seq (ihx E en hl hk fun e env' h' ρ' w' a' E' s' en' hl' hk' => ?_)
      cases e with
      | n => exact ihy E' en' hl' hk' (H.step s')
      | x i => exact H (.x i) env' h' ρ' w' a' E' s' en' hl' hk'
      | r => exact H .r env' h' ρ' w' a' E' s' en' hl' hk'
  | cond cc x y ihx ihy =>
    intro ann K env a ρ h w QQ E en hl hk H
    have hev : Rel ρ h.nx.num (evA env cc) (a.eval cc) := evA_rel fun t _ => en.tmp t
    cases ann <;> first | (cases hk; done) | skip
    case i ax ay =>
      obtain ⟨b, hb, hk2⟩ := cdK_spec (show cdK (evA env cc) (den P T M N x ax K env h) (den P T M N y ay K env h) = true from hk)
      rw [hb] at hev
      generalize hv : a.eval cc = v at hev
      cases hev
      cases b with
      | true => exact wp_cond_true hv (ihx E en hl hk2 H)
      | false => exact wp_cond_false hv (ihy E en hl hk2 H)
    case j W ax ay =>
      have hk : cdK (evA env cc) (den P T M N x ax (jK W.length (metK N W K) W K) env h) (den P T M N y ay (jK W.length (metK N W K) W K) env h) = true := hk
      obtain ⟨b, hb, hk2⟩ := cdK_spec hk
      rw [hb] at hev
      generalize hv : a.eval cc = v at hev
      cases hev
      have H2 : KS P N ρ h w B (jK W.length (metK N W K) W K) QQ := fun e env' h' ρ' w' a' E' s' en' hl' hk' => by
        cases e with
        | n =>
          obtain ⟨env2, g1, g2, g3⟩ := met_sound en' hl' (f := fun env h => K .n env h) hk'
          exact H .n env2 h' ρ' w' a' E' s' g3 g2 g1
        | x i => exact H (.x i) env' h' ρ' w' a' E' s' en' hl' hk'
        | r => exact H .r env' h' ρ' w' a' E' s' en' hl' hk'
      cases b with
      | true => exact wp_cond_true hv (ihx E en hl hk2 H2)
      | false => exact wp_cond_false hv (ihy E en hl hk2 H2)
  | block id x ihx =>
    intro ann K env a ρ h w QQ E en hl hk H
    have step : ∀ (K2 : Kt), KS P N ρ h w B K2 QQ → KS P N ρ h w B (blkK id K2) (Exit.inBlock id QQ) := fun K2 H2 e env' h' ρ' w' a' E' s' en' hl' hk' => by
      cases e with
      | n => exact H2 .n env' h' ρ' w' a' E' s' en' hl' hk'
      | x i =>
        have hk' : Bool.casesOn (motive := fun _ => Bool) (Nat.beq i id) (K2 (.x i) env' h') (K2 .n env' h') = true := hk'
        show (if i = id then QQ .normal a' w' else QQ (.exit i) a' w')
        cases hb : Nat.beq i id with
        | true =>
          rw [hb] at hk'
          rw [if_pos (Nat.eq_of_beq_eq_true hb)]
          exact H2 .n env' h' ρ' w' a' E' s' en' hl' hk'
        | false =>
          rw [hb] at hk'
          rw [if_neg (Nat.ne_of_beq_eq_false hb)]
          exact H2 (.x i) env' h' ρ' w' a' E' s' en' hl' hk'
      | r => exact H2 .r env' h' ρ' w' a' E' s' en' hl' hk'
    cases ann <;> first | (cases hk; done) | skip
    case b ax => exact wp_block (ihx E en hl (show den P T M N x ax (blkK id K) env h = true from hk) (step K H))
    case k W ax =>
      have hk : den P T M N x ax (blkK id (jK W.length (metK N W K) W K)) env h = true := hk
      have H2 : KS P N ρ h w B (jK W.length (metK N W K) W K) QQ := fun e env' h' ρ' w' a' E' s' en' hl' hk' => by
        cases e with
        | n =>
          obtain ⟨env2, g1, g2, g3⟩ := met_sound en' hl' (f := fun env h => K .n env h) hk'
          exact H .n env2 h' ρ' w' a' E' s' g3 g2 g1
        | x i => exact H (.x i) env' h' ρ' w' a' E' s' en' hl' hk'
        | r => exact H .r env' h' ρ' w' a' E' s' en' hl' hk'
      exact wp_block (ihx E en hl hk (step _ H2))
  | loop x ihx =>
    intro ann K env a ρ h w QQ E en hl hk H
    cases ann <;> first | (cases hk; done) | skip
    case l W ax =>
      let F : CT W.length → CT W.length := fun ih => clam W.length fun vals h' => beK W vals (List.replicate N .d) fun env' => den P T M N x ax (jK W.length ih W K) env' h'
      have hk : capp W.length (lpR W.length F 100000) (sel W env) h = true := hk
      refine wp_loop_fuel (fun m a' w' => ∃ env' h' ρ', Emb P ρ' h' w' B ∧ Step ρ h w ρ' h' w' ∧ Env ρ' h'.nx.num env' a' ∧ env'.length = N ∧ capp W.length (lpR W.length F m) (sel W env') h' = true) (fun m a' w' hI => ?_) (m := 100000) ⟨env, h, ρ, E, Step.refl _ _ _, en, hl, hk⟩
      obtain ⟨env', h', ρ', E', s', en', hl', hk'⟩ := hI
      cases m with
      | zero =>
        obtain ⟨_, hf⟩ := capp_clam W.length (fun _ _ => false) _ _ hk'
        cases hf
      | succ m =>
        obtain ⟨env2, g1, g2, g3⟩ := met_sound en' hl' (f := fun env h => den P T M N x ax (jK W.length (lpR W.length F m) W K) env h) hk'
        refine ihx E' g3 g2 g1 fun e env3 h3 ρ3 w3 a3 E3 s3 en3 hl3 hk3 => ?_
        cases e with
        | n => exact ⟨m, Nat.lt_succ_self m, env3, h3, ρ3, E3, s'.trans s3, en3, hl3, hk3⟩
        | x i => exact H (.x i) env3 h3 ρ3 w3 a3 E3 (s'.trans s3) en3 hl3 hk3
        | r => exact H .r env3 h3 ρ3 w3 a3 E3 (s'.trans s3) en3 hl3 hk3
  | rangeFunc f ps x y _ _ => intro ann K env a ρ h w QQ E en hl hk H; cases hk
  | exit id => intro ann K env a ρ h w QQ E en hl hk H; exact wp_exit (H (.x id) env h ρ w a E (Step.refl _ _ _) en hl hk)
  | scope x _ => intro ann K env a ρ h w QQ E en hl hk H; cases hk
  | label l => intro ann K env a ρ h w QQ E en hl hk H; cases hk
  | goto l => intro ann K env a ρ h w QQ E en hl hk H; cases hk
  | ret => intro ann K env a ρ h w QQ E en hl hk H; exact wp_ret (H .r env h ρ w a E (Step.refl _ _ _) en hl hk)
  | refuse why => intro ann K env a ρ h w QQ E en hl hk H; cases hk
end
end Go.Proofs.YtmddhlfjilkdfaaGreatDoor
namespace Go.Proofs.YtmddhlfjilkdfaaGreatDoor
set_option linter.unusedVariables false
set_option linter.unusedSimpArgs false

/-! What stands before. -/
theorem or_testBit (a b i : Nat) : Nat.testBit (Nat.lor a b) i = (Nat.testBit a i || Nat.testBit b i) := Nat.testBit_or a b i
theorem msk1_spec (acc : List Nat) (i : Nat) : ∀ (l : List Nat) (s : Nat), Nat.testBit (List.foldl (fun s i => Nat.lor (Nat.lor s (Nat.pow 2 i)) (acc.getD i 0)) s l) i = true → Nat.testBit s i = true ∨ ∃ e ∈ l, e = i ∨ Nat.testBit (acc.getD e 0) i = true
  | [], s, h => .inl h
  | e :: l, s, h => by
    rw [List.foldl_cons] at h
    rcases msk1_spec acc i l _ h with h1 | ⟨e', h1, h2⟩
    · rw [or_testBit, or_testBit] at h1
      simp only [Bool.or_eq_true] at h1
      rcases h1 with (h1 | h1) | h1
      · exact .inl h1
      · right
        refine ⟨e, by simp, .inl ?_⟩
        have : Nat.testBit (2 ^ e) i = true := h1
        rw [Nat.testBit_two_pow] at this
        simpa using this
      · exact .inr ⟨e, by simp, .inr h1⟩
    · exact .inr ⟨e', List.mem_cons_of_mem _ h1, h2⟩
theorem mskL_prefix : ∀ (l : List Oper) (acc : List Nat) (i : Nat), i < acc.length → (mskL l acc).getD i 0 = acc.getD i 0
  | [], _, _, _ => rfl
  | o :: l, acc, i, h => by
    rw [mskL, mskL_prefix l _ i (by simp; omega), List.getD_eq_getElem?_getD, List.getElem?_append_left h, ← List.getD_eq_getElem?_getD]
theorem mskL_at : ∀ (l : List Oper) (acc : List Nat) (j : Nat) (o : Oper), l[j]? = some o → ∃ acc', (mskL l acc).getD (acc.length + j) 0 = msk1 acc' (dpr o) ∧ acc'.length = acc.length + j ∧ ∀ i, i < acc'.length → (mskL l acc).getD i 0 = acc'.getD i 0
  | [], acc, j, o, h => by simp at h
  | x :: l, acc, 0, o, h => by
    have h : x = o := by simpa using h
    subst h
    refine ⟨acc, ?_, rfl, fun i hi => ?_⟩
    · rw [mskL, mskL_prefix l _ _ (by simp)]
      simp [List.getD_eq_getElem?_getD]
    · exact mskL_prefix _ _ _ hi
  | x :: l, acc, j + 1, o, h => by
    obtain ⟨acc', h1, h2, h3⟩ := mskL_at l (acc ++ [msk1 acc (dpr x)]) j o (by simpa using h)
    rw [List.length_append, List.length_singleton] at h1 h2
    exact ⟨acc', by rw [mskL, ← h1]; congr 1; omega, by omega, fun i hi => by rw [mskL]; exact h3 i hi⟩
/-- The set of what is done holds what stands right before each of its own. -/
def Closed (all : List Oper) (S : Nat → Prop) : Prop := ∀ j o, all[j]? = some o → S j → ∀ e ∈ dpr o, S e
theorem bfr_closed {all : List Oper} {S : Nat → Prop} (hS : Closed all S) : ∀ (j : Nat) (o : Oper), all[j]? = some o → (∀ e ∈ dpr o, S e) → ∀ i, bfr (mskL all []) j i = true → S i := by
  intro j
  induction j using Nat.strongRecOn with
  | _ j ih =>
    intro o ho hpre i hi
    obtain ⟨acc', h1, h2, h3⟩ := mskL_at all [] j o ho
    simp only [List.length_nil, Nat.zero_add] at h1 h2
    unfold bfr at hi
    rw [h1] at hi
    rcases msk1_spec acc' i (dpr o) 0 hi with hz | ⟨e, he, h4⟩
    · simp at hz
    · rcases h4 with rfl | h4
      · exact hpre _ he
      · have hej : e < j := by
          rcases Nat.lt_or_ge e j with h | h
          · exact h
          · rw [List.getD_eq_getElem?_getD, List.getElem?_eq_none (by omega)] at h4
            simp at h4
        have hae : ∃ oe, all[e]? = some oe := by
          have : j < all.length := (List.getElem?_eq_some_iff.1 ho).1
          exact ⟨all[e]'(by omega), List.getElem?_eq_getElem _⟩
        obtain ⟨oe, hoe⟩ := hae
        refine ih e hej oe hoe (fun e' he' => hS e oe hoe (hpre e he) e' he') i ?_
        unfold bfr
        rw [h3 e (by omega)]
        exact h4
theorem memN_spec {l : List Nat} {i : Nat} : memN l i = true ↔ i ∈ l := by
  unfold memN
  rw [List.any_eq_true]
  exact ⟨fun ⟨x, hx, he⟩ => by rw [Nat.eq_of_beq_eq_true he]; exact hx, fun h => ⟨i, h, Nat.beq_refl i⟩⟩
/-- In the chosen order each stands behind what binds it, and stands once. -/
theorem linOk_split {all : List Oper} : ∀ {l pre : List Nat}, linOk all pre l = true → ∀ {p q : List Nat} {j : Nat}, l = p ++ j :: q → ∃ o, all[j]? = some o ∧ (∀ e ∈ dpr o, e ∈ pre ∨ e ∈ p) ∧ j ∉ pre ∧ j ∉ p
  | [], _, _, p, q, j, e => by cases p <;> cases e
  | x :: l, pre, h, p, q, j, e => by
    unfold linOk at h
    split at h
    · rename_i o ho
      simp only [Bool.and_eq_true] at h
      obtain ⟨⟨h1, h2⟩, h3⟩ := h
      cases p with
      | nil =>
        cases e
        refine ⟨o, ho, fun e he => .inl (memN_spec.1 (List.all_eq_true.1 h1 e he)), fun hm => ?_, by simp⟩
        rw [memN_spec.2 hm] at h2
        cases h2
      | cons y p =>
        cases e
        obtain ⟨o', g1, g2, g3, g4⟩ := linOk_split h3 (p := p) (q := q) (j := j) rfl
        refine ⟨o', g1, fun e he => ?_, fun hm => g3 (List.mem_cons_of_mem _ hm), fun hm => ?_⟩
        · rcases g2 e he with hh | hh
          · rcases List.mem_cons.1 hh with rfl | hh
            · exact .inr (by simp)
            · exact .inl hh
          · exact .inr (List.mem_cons_of_mem _ hh)
        · rcases List.mem_cons.1 hm with rfl | hm
          · exact g3 (by simp)
          · exact g4 hm
    · cases h
theorem linOk_closed {all : List Oper} {ord : List Nat} (h : linOk all [] ord = true) {p q : List Nat} (e : ord = p ++ q) : Closed all (· ∈ p) := by
  intro j o ho hj e' he'
  obtain ⟨p1, p2, rfl⟩ := List.append_of_mem hj
  obtain ⟨o', g1, g2, _, _⟩ := linOk_split h (p := p1) (q := p2 ++ q) (j := j) (by rw [e]; simp)
  rw [ho] at g1
  cases g1
  rcases g2 e' he' with hh | hh
  · cases hh
  · exact List.mem_append_left _ hh
theorem linOk_before {all : List Oper} {ord : List Nat} (h : linOk all [] ord = true) {p q : List Nat} {j : Nat} (e : ord = p ++ j :: q) {i : Nat} (hb : bfr (mskL all []) j i = true) : i ∈ p := by
  obtain ⟨o, g1, g2, _, _⟩ := linOk_split h e
  exact bfr_closed (linOk_closed h e) j o g1 (fun e he => (g2 e he).resolve_left (by simp)) i hb
theorem linOk_nodup {all : List Oper} {ord : List Nat} (h : linOk all [] ord = true) {p q : List Nat} {j : Nat} (e : ord = p ++ j :: q) : j ∉ p ∧ j ∉ q := by
  refine ⟨(linOk_split h e).choose_spec.2.2.2, fun hm => ?_⟩
  obtain ⟨q1, q2, rfl⟩ := List.append_of_mem hm
  obtain ⟨_, _, _, _, g⟩ := linOk_split h (p := p ++ j :: q1) (q := q2) (j := j) (by rw [e]; simp)
  exact g (by simp)

/-! What the chosen order handed on. -/
section
variable {P : Program} {T : Tbl} {M : List (Nat × Nat)}
inductive Chain (P : Program) (T : Tbl) (M : List (Nat × Nat)) (all : List Oper) : Nat → List Nat → List AV → Hp → List (Nat × Nat × List AV × AV) → List Hp → List AV → Hp → Prop
  | nil (c : Nat) (env : List AV) (h : Hp) : Chain P T M all c [] env h [] [] env h
  | heavy (c i : Nat) (o : Oper) (ord : List Nat) (env : List AV) (h : Hp) (y : AV) (h' : Hp) (acc : List (Nat × Nat × List AV × AV)) (hs : List Hp) (envE : List AV) (hE : Hp) (ho : all[i]? = some o) (hv : isHeavy P o.op = true) (hk : ∀ k, gopD P T M all o env h k = k y h')
      (t : Chain P T M all (c + 1) ord (setP o.dst y env) h' acc hs envE hE) : Chain P T M all c (i :: ord) env h ((i, c, env, y) :: acc) (h' :: hs) envE hE
  | light (c i : Nat) (o : Oper) (ord : List Nat) (env : List AV) (h : Hp) (y : AV) (acc : List (Nat × Nat × List AV × AV)) (hs : List Hp) (envE : List AV) (hE : Hp) (ho : all[i]? = some o) (hv : isHeavy P o.op = false) (hk : ∀ k, gopD P T M all o env h k = k y h)
      (t : Chain P T M all c ord (setP o.dst y env) h acc hs envE hE) : Chain P T M all c (i :: ord) env h ((i, c, env, y) :: acc) hs envE hE
theorem light_val {all : List Oper} {o : Oper} {env : List AV} {h : Hp} (hv : isHeavy P o.op = false) {k : AV → Hp → Bool} (hk : gopD P T M all o env h k = true) : ∃ y, (∀ k, gopD P T M all o env h k = k y h) ∧ k y h = true := by
  have hop : ∀ f : Operand → AV, ∀ k, opD P T M o.op f h k = lightD P o.op f h fun y => k y h := fun f k => by simp only [opD, hv]
  have hl : ∀ f : Operand → AV, Det (fun k => lightD P o.op f h k) := fun f => lightD_det P o.op f h
  have key : ∀ {r : (AV → Hp → Bool) → Bool}, (∃ v : Option AV, ∀ k, r k = v.elim false fun y => k y h) → r k = true → ∃ y, (∀ k, r k = k y h) ∧ k y h = true := fun {r} ⟨v, hv⟩ hr => by
    cases v with
    | none => rw [hv] at hr; cases hr
    | some y => exact ⟨y, hv, (hv k).symm.trans hr⟩
  refine key ?_ hk
  simp only [gopD, hop]
  rcases o.guard with _ | ⟨j, want⟩
  · obtain ⟨v, hv⟩ := hl (evA env)
    exact ⟨v, fun k => hv fun y => k y h⟩
  · dsimp only
    cases (all[j]?).bind (·.dst) with
    | none => exact ⟨none, fun _ => rfl⟩
    | some d =>
      obtain ⟨v, hv⟩ := hl (evA env)
      dsimp only
      generalize env.getD d .d = x
      cases x <;> first | exact ⟨none, fun _ => rfl⟩ | exact ⟨some (.t []), fun _ => rfl⟩ | skip
      case b y =>
        show ∃ w : Option AV, ∀ k : AV → Hp → Bool, (Bool.casesOn (motive := fun _ => Bool) (sameB y want) (k (.t []) h) (lightD P o.op (evA env) h fun y => k y h)) = w.elim false fun y => k y h
        cases sameB y want with
        | false => exact ⟨some (.t []), fun _ => rfl⟩
        | true => exact ⟨v, fun k => hv fun y => k y h⟩
theorem runG_chain (hT : SoundT P T) {all : List Oper} : ∀ (ord : List Nat) {acc : List (Nat × Nat × List AV × AV)} {hs : List Hp} {env : List AV} {h : Hp} {k : List (Nat × Nat × List AV × AV) → List Hp → List AV → Hp → Bool}, runG P T M all ord acc hs env h k = true →
    ∃ acc' hs' envE hE, Chain P T M all hs.length ord env h acc' hs' envE hE ∧ k (acc ++ acc') (hs ++ hs') envE hE = true
  | [], acc, hs, env, h, k, hk => ⟨[], [], env, h, .nil _ _ _, by simpa using hk⟩
  | i :: ord, acc, hs, env, h, k, hk => by
    have hk : (match all[i]? with
      | some o => gopD P T M all o env h fun y h' => setO o.dst y env fun env' => runG P T M all ord (acc ++ [(i, hs.length, env, y)]) (match isHeavy P o.op with
        | true => hs ++ [h']
        | false => hs) env' h' k
      | none => false) = true := hk
    cases ho : all[i]? with
    | none => rw [ho] at hk; cases hk
    | some o =>
      rw [ho] at hk
      dsimp only at hk
      cases hv : isHeavy P o.op with
      | true =>
        rw [hv] at hk
        obtain ⟨y, h', g1, g2⟩ := Det2.val (gopD_det hT M all o env h) hk
        dsimp only at g2
        rw [setO_eq] at g2
        obtain ⟨acc', hs', envE, hE, c, hk'⟩ := runG_chain hT ord g2
        rw [List.length_append, List.length_singleton] at c
        exact ⟨_, _, envE, hE, .heavy _ i o ord env h y h' acc' hs' envE hE ho hv g1 c, by simpa using hk'⟩
      | false =>
        rw [hv] at hk
        obtain ⟨y, g1, g2⟩ := light_val hv hk
        dsimp only at g2
        rw [setO_eq] at g2
        obtain ⟨acc', hs', envE, hE, c, hk'⟩ := runG_chain hT ord g2
        exact ⟨_, _, envE, hE, .light _ i o ord env h y acc' hs' envE hE ho hv g1 c, by simpa using hk'⟩
end
end Go.Proofs.YtmddhlfjilkdfaaGreatDoor
namespace Go.Proofs.YtmddhlfjilkdfaaGreatDoor
set_option linter.unusedVariables false
set_option linter.unusedSimpArgs false

section
variable {P : Program} {T : Tbl} {M : List (Nat × Nat)}
def dstOE (all : List Oper) (i : Nat) : Option Nat := (all[i]?).bind (·.dst)
def repP (all : List Oper) (acc : List (Nat × Nat × List AV × AV)) (env : List AV) : List AV := acc.foldl (fun e r => setP (dstOE all r.1) r.2.2.2 e) env
theorem hvL_cons_heavy {all : List Oper} {i : Nat} {o : Oper} {l : List Nat} (ho : all[i]? = some o) (hv : isHeavy P o.op = true) : hvL P all (i :: l) = i :: hvL P all l := by
  unfold hvL
  rw [List.filter_cons, ho]
  simp [hv]
theorem hvL_cons_light {all : List Oper} {i : Nat} {o : Oper} {l : List Nat} (ho : all[i]? = some o) (hv : isHeavy P o.op = false) : hvL P all (i :: l) = hvL P all l := by
  unfold hvL
  rw [List.filter_cons, ho]
  simp [hv]
/-- An operation at its place in the chosen order. -/
def AtR (P : Program) (T : Tbl) (M : List (Nat × Nat)) (all : List Oper) (c0 : Nat) (env : List AV) (HH : List Hp) (p : List (Nat × Nat × List AV × AV)) (r : Nat × Nat × List AV × AV) : Prop :=
  ∃ o H, all[r.1]? = some o ∧ r.2.2.1 = repP all p env ∧ r.2.1 = c0 + (hvL P all (p.map (·.1))).length ∧ HH[(hvL P all (p.map (·.1))).length]? = some H ∧
    ((isHeavy P o.op = true ∧ ∃ H', HH[(hvL P all (p.map (·.1))).length + 1]? = some H' ∧ ∀ k, gopD P T M all o r.2.2.1 H k = k r.2.2.2 H') ∨ (isHeavy P o.op = false ∧ ∀ k, gopD P T M all o r.2.2.1 H k = k r.2.2.2 H))
theorem Chain.facts {all : List Oper} {c0 : Nat} {ord : List Nat} {env : List AV} {h : Hp} {acc : List (Nat × Nat × List AV × AV)} {hs : List Hp} {envE : List AV} {hE : Hp} (c : Chain P T M all c0 ord env h acc hs envE hE) :
    acc.map (·.1) = ord ∧ hs.length = (hvL P all ord).length ∧ envE = repP all acc env ∧ (h :: hs)[hs.length]? = some hE ∧ ∀ p r q, acc = p ++ r :: q → AtR P T M all c0 env (h :: hs) p r := by
  induction c with
  | nil c env h => exact ⟨rfl, rfl, rfl, rfl, fun p r q e => by cases p <;> cases e⟩
  | heavy c i o ord env h y h' acc hs envE hE ho hv hk t ih =>
    obtain ⟨g1, g2, g3, g4, g5⟩ := ih
    have hd : dstOE all i = o.dst := by simp [dstOE, ho]
    refine ⟨by simp [g1], by rw [hvL_cons_heavy ho hv]; simp [g2], by rw [g3]; simp [repP, hd], by simpa using g4, fun p r q e => ?_⟩
    cases p with
    | nil =>
      cases e
      exact ⟨o, h, ho, rfl, by simp [hvL], rfl, .inl ⟨hv, h', rfl, hk⟩⟩
    | cons r0 p =>
      cases e
      obtain ⟨o', H, a1, a2, a3, a4, a5⟩ := g5 p r q rfl
      have hl : (hvL P all ((i, c, env, y) :: p |>.map (·.1))).length = (hvL P all (p.map (·.1))).length + 1 := by
        rw [List.map_cons, hvL_cons_heavy ho hv, List.length_cons]
      refine ⟨o', H, a1, by rw [a2]; simp [repP, hd], by rw [hl]; omega, by rw [hl]; exact a4, ?_⟩
      rw [hl]
      exact a5
  | light c i o ord env h y acc hs envE hE ho hv hk t ih =>
    obtain ⟨g1, g2, g3, g4, g5⟩ := ih
    have hd : dstOE all i = o.dst := by simp [dstOE, ho]
    refine ⟨by simp [g1], by rw [hvL_cons_light ho hv]; exact g2, by rw [g3]; simp [repP, hd], g4, fun p r q e => ?_⟩
    cases p with
    | nil =>
      cases e
      exact ⟨o, h, ho, rfl, by simp [hvL], rfl, .inr ⟨hv, hk⟩⟩
    | cons r0 p =>
      cases e
      obtain ⟨o', H, a1, a2, a3, a4, a5⟩ := g5 p r q rfl
      have hl : (hvL P all ((i, c, env, y) :: p |>.map (·.1))).length = (hvL P all (p.map (·.1))).length := by
        rw [List.map_cons, hvL_cons_light ho hv]
      refine ⟨o', H, a1, by rw [a2]; simp [repP, hd], by rw [hl]; omega, by rw [hl]; exact a4, ?_⟩
      rw [hl]
      exact a5
/-! Readers. -/
theorem read_light {op : Op} (hr : isRead P op = true) : isHeavy P op = false := by
  cases op <;> first | rfl | (cases hr; done) | skip
  case convert s t x =>
    show (isStr P s && (sliceOf P t).isSome) = false
    have hr : (sliceOf P s).isSome = true := hr
    unfold sliceOf at hr
    split at hr
    · rename_i e he
      simp [isStr, he]
    · cases hr
  case call c =>
    obtain ⟨callee, args, ts⟩ := c
    cases callee with
    | builtin b => cases b <;> first | rfl | cases hr
    | value v => cases hr
    | invoke r n => cases hr
theorem lightD_pure {op : Op} (hr : isRead P op = false) (f : Operand → AV) (h h' : Hp) (k : AV → Bool) : lightD P op f h k = lightD P op f h' k := by
  cases op <;> first | rfl | (cases hr; done) | skip
  case makeFunc fn a b => cases fn <;> rfl
  case convert s t x =>
    have hr : (sliceOf P s).isSome = false := hr
    have hns : ∀ e, P.underlying s ≠ some (.slice e) := fun e he => by simp [sliceOf, he] at hr
    simp only [lightD, cnvD]
    split
    · rfl
    · rfl
    · rename_i e h1 h2; exact (hns e h1).elim
    · rfl
  case call c =>
    obtain ⟨callee, args, ts⟩ := c
    cases callee with
    | builtin b =>
      cases b <;> first | rfl | skip
      case min => simp only [lightD, bltD]; generalize args.toList.map f = asL; cases asL <;> rfl
      case max => simp only [lightD, bltD]; generalize args.toList.map f = asL; cases asL <;> rfl
      case len =>
        simp only [lightD, bltD]
        have hr : (match ts.toList with
          | [t] => (mapOf P t).isSome
          | _ => true) = false := hr
        generalize ts.toList = l at hr ⊢
        generalize args.toList.map f = asL
        rcases l with _ | ⟨t, _ | ⟨u, l⟩⟩
        · rfl
        · rcases asL with _ | ⟨x, _ | ⟨y, asL⟩⟩
          · rfl
          · have hr : (mapOf P t).isSome = false := hr
            dsimp only
            split
            · rfl
            · rfl
            · rename_i kt et ht; simp [mapOf, ht] at hr
            · rfl
          · rfl
        · rfl
    | value v => rfl
    | invoke r n => rfl
theorem gopD_pure {all : List Oper} {o : Oper} (hv : isHeavy P o.op = false) (hr : isRead P o.op = false) {env : List AV} {h h' : Hp} {y : AV} (hk : ∀ k, gopD P T M all o env h k = k y h) : ∀ k, gopD P T M all o env h' k = k y h' := by
  intro k
  have hop : ∀ (h : Hp) k, opD P T M o.op (evA env) h k = lightD P o.op (evA env) h fun y => k y h := fun h k => by simp only [opD, hv]
  have hk' := hk fun y _ => k y h'
  rw [← hk']
  simp only [gopD, hop]
  rcases o.guard with _ | ⟨j, want⟩
  · exact lightD_pure hr _ _ _ _
  · dsimp only
    cases (all[j]?).bind (·.dst) with
    | none => rfl
    | some d =>
      dsimp only
      generalize env.getD d .d = x
      cases x <;> first | rfl | skip
      case b y =>
        show (Bool.casesOn (motive := fun _ => Bool) (sameB y want) (k (.t []) h') (lightD P o.op (evA env) h' fun y => k y h')) = (Bool.casesOn (motive := fun _ => Bool) (sameB y want) (k (.t []) h') (lightD P o.op (evA env) h fun y => k y h'))
        rw [lightD_pure hr _ h h']
theorem rck1_spec {all : List Oper} {pm hv : List Nat} {r : Nat × Nat × List AV × AV} {o : Oper} (ho : isHeavy P o.op = false) : ∀ {hs : List Hp} {c : Nat} {b : Bool}, rck1 P T M all pm hv r o hs c b = true → b = true ∧ ∀ i H, hs[i]? = some H → mayAt pm hv r.1 (c + i) = true → c + i + 1 ≠ r.2.1 → ∀ k, gopD P T M all o r.2.2.1 H k = k r.2.2.2 H
  | [], c, b, hk => ⟨hk, fun i H h => by simp at h⟩
  | h :: hs, c, b, hk => by
    have hk : (match mayAt pm hv r.1 c && !(Nat.beq (Nat.succ c) r.2.1) with
      | true => gopD P T M all o r.2.2.1 h fun y _ => ifT (avEq y r.2.2.2) (rck1 P T M all pm hv r o hs (Nat.succ c) b)
      | false => rck1 P T M all pm hv r o hs (Nat.succ c) b) = true := hk
    cases hc : mayAt pm hv r.1 c && !(Nat.beq (Nat.succ c) r.2.1) with
    | true =>
      rw [hc] at hk
      obtain ⟨y, g1, g2⟩ := light_val ho hk
      obtain ⟨g3, g4⟩ := ifT_spec g2
      have := avEq_eq g3
      subst this
      obtain ⟨hb, ih⟩ := rck1_spec ho g4
      refine ⟨hb, fun i H hi hm hne => ?_⟩
      cases i with
      | zero =>
        have : h = H := by simpa using hi
        subst this
        exact g1
      | succ i => exact ih i H (by simpa using hi) (by rw [← hm]; congr 1; omega) (by omega)
    | false =>
      rw [hc] at hk
      obtain ⟨hb, ih⟩ := rck1_spec ho hk
      refine ⟨hb, fun i H hi hm hne => ?_⟩
      cases i with
      | zero =>
        rw [Nat.add_zero] at hm hne
        rw [hm] at hc
        have : Nat.beq (Nat.succ c) r.2.1 = true := by simpa using hc
        exact (hne (Nat.eq_of_beq_eq_true this)).elim
      | succ i => exact ih i H (by simpa using hi) (by rw [← hm]; congr 1; omega) (by omega)
theorem rckL_spec {all : List Oper} {pm hv : List Nat} {hs : List Hp} : ∀ {acc : List (Nat × Nat × List AV × AV)} {b : Bool}, rckL P T M all pm hv hs acc b = true → b = true ∧ ∀ r ∈ acc, ∀ o, all[r.1]? = some o → isRead P o.op = true → ∀ i H, hs[i]? = some H → mayAt pm hv r.1 i = true → i + 1 ≠ r.2.1 → ∀ k, gopD P T M all o r.2.2.1 H k = k r.2.2.2 H
  | [], b, hk => ⟨hk, fun r hr => by cases hr⟩
  | r :: acc, b, hk => by
    have hk : (match all[r.1]? with
      | some o => match isRead P o.op with
        | true => rck1 P T M all pm hv r o hs 0 (rckL P T M all pm hv hs acc b)
        | false => rckL P T M all pm hv hs acc b
      | none => false) = true := hk
    cases ho : all[r.1]? with
    | none => rw [ho] at hk; cases hk
    | some o =>
      rw [ho] at hk
      dsimp only at hk
      cases hr : isRead P o.op with
      | true =>
        rw [hr] at hk
        obtain ⟨h1, h2⟩ := rck1_spec (read_light hr) hk
        obtain ⟨hb, ih⟩ := rckL_spec h1
        refine ⟨hb, fun r' hr' o' ho' hrd i H hi hm hne => ?_⟩
        rcases List.mem_cons.1 hr' with rfl | hr'
        · rw [ho] at ho'
          cases ho'
          exact h2 i H hi (by rw [Nat.zero_add]; exact hm) (by omega)
        · exact ih r' hr' o' ho' hrd i H hi hm hne
      | false =>
        rw [hr] at hk
        obtain ⟨hb, ih⟩ := rckL_spec hk
        refine ⟨hb, fun r' hr' o' ho' hrd i H hi hm hne => ?_⟩
        rcases List.mem_cons.1 hr' with rfl | hr'
        · rw [ho] at ho'
          cases ho'
          rw [hr] at hrd
          cases hrd
        · exact ih r' hr' o' ho' hrd i H hi hm hne
end
end Go.Proofs.YtmddhlfjilkdfaaGreatDoor
namespace Go.Proofs.YtmddhlfjilkdfaaGreatDoor
set_option linter.unusedVariables false
set_option linter.unusedSimpArgs false

abbrev Rw := Nat × Nat × List AV × AV
def repF (all : List Oper) (f : Rw → Option AV) (acc : List Rw) (env : List AV) : List AV := acc.foldl (fun e r => match f r with
  | some v => setP (dstOE all r.1) v e
  | none => e) env
theorem repF_cons (all : List Oper) (f : Rw → Option AV) (r : Rw) (acc : List Rw) (env : List AV) : repF all f (r :: acc) env = repF all f acc (match f r with
  | some v => setP (dstOE all r.1) v env
  | none => env) := rfl
theorem repF_append (all : List Oper) (f : Rw → Option AV) (p q : List Rw) (env : List AV) : repF all f (p ++ q) env = repF all f q (repF all f p env) := List.foldl_append ..
theorem setP_get {d : Option Nat} {x : AV} {e : List AV} {t : Nat} (h : d ≠ some t) : (setP d x e).getD t .d = e.getD t .d := by
  cases d with
  | none => rfl
  | some d =>
    have hne : d ≠ t := fun e => h (by rw [e])
    simp [setP, List.getD_eq_getElem?_getD, List.getElem?_set_ne hne]
theorem setP_get_same {x : AV} {e e' : List AV} {t : Nat} (hl : e.length = e'.length) : (setP (some t) x e).getD t .d = (setP (some t) x e').getD t .d := by
  simp only [setP, List.getD_eq_getElem?_getD]
  by_cases h : t < e.length
  · simp [h, hl ▸ h]
  · have h' : ¬ t < e'.length := hl ▸ h
    rw [List.set_eq_of_length_le (Nat.le_of_not_lt h), List.set_eq_of_length_le (Nat.le_of_not_lt h'), List.getElem?_eq_none (by omega), List.getElem?_eq_none (by omega)]
theorem repF_length (all : List Oper) (f : Rw → Option AV) : ∀ (acc : List Rw) (env : List AV), (repF all f acc env).length = env.length
  | [], _ => rfl
  | r :: acc, env => by
    rw [repF_cons, repF_length all f acc]
    cases f r with
    | none => rfl
    | some v => exact setP_length _ _ _
/-- What writes none of it turns none of it. -/
theorem repF_skip {all : List Oper} {f : Rw → Option AV} {t : Nat} : ∀ {acc : List Rw} {env : List AV}, (∀ r ∈ acc, dstOE all r.1 = some t → f r = none) → (repF all f acc env).getD t .d = env.getD t .d
  | [], _, _ => rfl
  | r :: acc, env, h => by
    rw [repF_cons, repF_skip fun r' hr' => h r' (List.mem_cons_of_mem _ hr')]
    cases hf : f r with
    | none => rfl
    | some v =>
      refine setP_get fun hd => ?_
      rw [h r (by simp) hd] at hf
      cases hf
theorem repP_cons (all : List Oper) (r : Rw) (acc : List Rw) (env : List AV) : repP all (r :: acc) env = repP all acc (setP (dstOE all r.1) r.2.2.2 env) := rfl
/-- Ahead of an operation both ways of telling agree on what it looks at. -/
theorem repF_agree {all : List Oper} {f : Rw → Option AV} {t : Nat} : ∀ {acc : List Rw} {env env' : List AV}, (∀ r ∈ acc, dstOE all r.1 = some t → f r = some r.2.2.2) → env.length = env'.length → env.getD t .d = env'.getD t .d → (repF all f acc env).getD t .d = (repP all acc env').getD t .d
  | [], _, _, _, _, he => he
  | r :: acc, env, env', h, hl, he => by
    rw [repF_cons, repP_cons]
    refine repF_agree (fun r' hr' => h r' (List.mem_cons_of_mem _ hr')) ?_ ?_
    · rw [setP_length]
      cases f r with
      | none => exact hl
      | some v => exact (setP_length _ _ _).trans hl
    · by_cases hd : dstOE all r.1 = some t
      · rw [h r (by simp) hd]
        dsimp only
        rw [hd]
        exact setP_get_same hl
      · rw [setP_get hd]
        cases f r with
        | none => exact he
        | some v => exact (setP_get hd).trans he
/-- One more is done. -/
theorem setP_comm {d d' : Option Nat} (x y : AV) (e : List AV) (h : d = none ∨ d ≠ d') : setP d x (setP d' y e) = setP d' y (setP d x e) := by
  cases d with
  | none => rfl
  | some d =>
    cases d' with
    | none => rfl
    | some d' =>
      have hne : d ≠ d' := fun e => h.elim (by simp) (fun h => h (by rw [e]))
      exact List.set_comm y x (Ne.symm hne)
theorem repF_push {all : List Oper} {f : Rw → Option AV} {d : Option Nat} {y : AV} : ∀ {acc : List Rw} {env : List AV}, (∀ r ∈ acc, f r ≠ none → dstOE all r.1 = none ∨ dstOE all r.1 ≠ d) → repF all f acc (setP d y env) = setP d y (repF all f acc env)
  | [], _, _ => rfl
  | r :: acc, env, h => by
    rw [repF_cons, repF_cons]
    cases hf : f r with
    | none => exact repF_push fun r' hr' => h r' (List.mem_cons_of_mem _ hr')
    | some v =>
      dsimp only
      rw [setP_comm _ _ _ (h r (by simp) (by rw [hf]; simp))]
      exact repF_push fun r' hr' => h r' (List.mem_cons_of_mem _ hr')
theorem repF_congr {all : List Oper} {f g : Rw → Option AV} : ∀ {acc : List Rw} {env : List AV}, (∀ r ∈ acc, f r = g r) → repF all f acc env = repF all g acc env
  | [], _, _ => rfl
  | r :: acc, env, h => by
    rw [repF_cons, repF_cons, h r (by simp)]
    exact repF_congr fun r' hr' => h r' (List.mem_cons_of_mem _ hr')
/-- What was unknown gets its value. -/
theorem repF_named {all : List Oper} {f g : Rw → Option AV} {L : Rw → Prop} {t : Nat} : ∀ {acc : List Rw} {env env' : List AV}, (∀ r ∈ acc, g r = f r ∨ (L r ∧ g r = some r.2.2.2 ∧ f r = some .d)) → env.length = env'.length → (env.getD t .d = env'.getD t .d ∨ ∃ r, L r ∧ dstOE all r.1 = some t ∧ env.getD t .d = r.2.2.2) →
    (repF all g acc env).getD t .d = (repF all f acc env').getD t .d ∨ ∃ r, L r ∧ dstOE all r.1 = some t ∧ (repF all g acc env).getD t .d = r.2.2.2
  | [], _, _, _, _, he => he
  | r :: acc, env, env', h, hl, he => by
    rw [repF_cons, repF_cons]
    refine repF_named (fun r' hr' => h r' (List.mem_cons_of_mem _ hr')) ?_ ?_
    · cases g r <;> cases f r <;> simp [setP_length, hl]
      all_goals
        rcases h r (by simp) with e | ⟨_, e1, e2⟩ <;> simp_all
    · by_cases hd : dstOE all r.1 = some t
      · rcases h r (by simp) with e | ⟨hL, e1, e2⟩
        · rw [e]
          cases hf : f r with
          | none => rw [hf] at e; exact he
          | some v => dsimp only; rw [hd]; exact .inl (setP_get_same hl)
        · rw [e1, e2]
          dsimp only
          by_cases ht : t < env.length
          · refine .inr ⟨r, hL, hd, ?_⟩
            rw [hd]
            simp [setP, List.getD_eq_getElem?_getD, ht]
          · left
            rw [hd]
            simp only [setP, List.getD_eq_getElem?_getD]
            rw [List.set_eq_of_length_le (Nat.le_of_not_lt ht), List.set_eq_of_length_le (by omega), List.getElem?_eq_none (by omega), List.getElem?_eq_none (by omega)]
      · have e1 : ∀ (o : Option AV) (e : List AV), (match o with
          | some v => setP (dstOE all r.1) v e
          | none => e).getD t .d = e.getD t .d := fun o e => by
          cases o with
          | none => rfl
          | some v => exact setP_get hd
        rw [e1, e1]
        exact he
/-! New memory. -/
section
variable {P : Program} {ρ : Q → Loc} {h : Hp} {w : World} {B : Nat} {T : Tbl} {M : List (Nat × Nat)}
theorem alloc_spec {all : List Oper} {o : Oper} (ha : isAl o = true) {env : List AV} {H H' : Hp} {y : AV} (hk : ∀ k, gopD P T M all o env H k = k y H') :
    ∃ ty z v, o.op = .alloc ty ∧ o.guard = none ∧ (P.info? ty).bind (·.zero) = some z ∧ z.cells.size = P.cellsOf ty ∧ y = .p H.nx 0 ∧ H' = .mk (H.t.set (.bk ty z.cells.size v) H.nx) H.nx.succ ∧ (∀ u ∈ z.cells.toList, u.oneCell' = true) ∧
      ∃ cs : List AV, cs.length = z.cells.size ∧ (∀ (j : Nat) (hj : j < cs.length), v.get j = cs[j]) ∧ ∀ (ρ : Q → Loc) (N : Nat), RelL ρ N cs z.cells.toList := by
  unfold isAl at ha
  split at ha
  · rename_i ty hop hg
    have hh : ∀ k : AV → Hp → Bool, gopD P T M all o env H k = heavyD P T M (.alloc ty) (evA env) H k := fun k => by simp only [gopD, hg, opD, isHeavy, hop]
    cases hz : (P.info? ty).bind (·.zero) with
    | none =>
      have := hk fun _ _ => true
      rw [hh] at this
      simp only [heavyD, hz] at this
      cases this
    | some z =>
      have hh : ∀ k : AV → Hp → Bool, gopD P T M all o env H k = boxK ty (P.cellsOf ty) (zeroOf P ty) H k := fun k => by rw [hh]; simp only [heavyD, hz]
      have hzr : ∀ (ρ : Q → Loc) (N : Nat), Rel ρ N (zeroOf P ty) z := fun ρ N => by unfold zeroOf; rw [hz]; exact cva_rel _ _ _
      classical
      let k0 : AV → Hp → Bool := fun y' H'' => decide (y' = y ∧ H'' = H')
      have h1 : boxK ty (P.cellsOf ty) (zeroOf P ty) H k0 = true := by rw [← hh, hk]; simp [k0]
      obtain ⟨c, hc, h2⟩ := (cellsK_det (zeroOf P ty) (P.cellsOf ty)).val h1
      have hcs : ∀ (ρ : Q → Loc) (N : Nat), c.length = P.cellsOf ty ∧ z.cells.size = P.cellsOf ty ∧ RelL ρ N c z.cells.toList ∧ ∀ u ∈ z.cells.toList, u.oneCell' = true := fun ρ N => by
        obtain ⟨cs, g1, g2, g3, g4, g5⟩ := AV.cellsK_spec (ρ := ρ) (N := N) (k := fun l => decide (l = c)) (x := zeroOf P ty) (n := P.cellsOf ty) (by rw [hc]; simp) (hzr ρ N)
        have : cs = c := by simpa using g1
        subst this
        exact ⟨g2, g3, g4, g5⟩
      obtain ⟨hl, hsz, _, h1c⟩ := hcs (fun _ => { blk := 0, base := 0, cap := 0 }) 0
      obtain ⟨v, hgv, h3⟩ := nbK_spec hl h2
      have h3 : (AV.p H.nx 0 = y ∧ Hp.mk (H.t.set (.bk ty c.length v) H.nx) H.nx.succ = H') := by simpa [k0] using h3
      have hcl : c.length = z.cells.size := by rw [hl, hsz]
      exact ⟨ty, z, v, hop, hg, hz, hsz, h3.1.symm, by rw [← h3.2, hcl], h1c, c, hcl, hgv, fun ρ N => (hcs ρ N).2.2.1⟩
  · cases ha
end
end Go.Proofs.YtmddhlfjilkdfaaGreatDoor
