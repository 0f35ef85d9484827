/-
  No claim by itself: the evaluator: each operation has one value, by its kind. | the evaluator: operations that write have one outcome. | the evaluator: operations under guards; regions in the text's order. | the evaluator: what a text means is what it does. No condition.
-/
import Derived.Test.YtpchmdddkpocgaaGreatDoorP7
namespace Go.Proofs.YtpchmdddkpocgaaGreatDoor
set_option linter.unusedVariables false
set_option linter.unusedSimpArgs false
theorem ibK_det (op : BinOp) (kd : IntKind) (a b : Nat) : Det (ibK op kd a b) := by
 cases op <;> first | exact Det.fail | exact Det.ret _ | exact Det.natK _ fun n => Det.ret _ | exact det_ifT (det_ifT (Det.natK _ fun n => Det.ret _))
theorem shK_det (op : BinOp) (kd : IntKind) (a b : Nat) : Det (shK op kd a b) := by
 refine det_ifT (det_ifT ?_)
 cases op <;> first | exact Det.fail | exact Det.natK _ fun n => Det.ret _
theorem sbK_det (op : BinOp) (n : Nat) (l : List Nat) (m : Nat) (r : List Nat) : Det (sbK op n l m r) := by
 cases op <;> first | exact Det.fail | exact Det.ret _ | exact det_ifT (Det.ret _)
theorem eqB_det (op : BinOp) (x : Bool) : Det (eqB op x) := by cases op <;> first | exact Det.fail | exact Det.ret _
theorem nilP_det (x : AV) : Det (nilP x) := by cases x <;> first | exact Det.fail | exact Det.ret _
theorem nilS_det (x : AV) : Det (nilS x) := by
 cases x <;> first | exact Det.fail | exact Det.ret _ | skip
 rename_i s
 cases s <;> first | exact Det.fail | exact Det.ret _
theorem nilI_det (x : AV) : Det (nilI x) := by cases x <;> first | exact Det.fail | exact Det.ret _
theorem ikK_det (op : BinOp) (x y : AV) : Det (ikK op x y) := Det.on_i fun kd a => Det.on_i fun _ b => det_ifT (ibK_det op kd a b)
theorem bndK_det {α : Type} {x : AV} {f : IntKind → Nat → Nat → (α → Bool) → Bool} (hf : ∀ a b c, Det (f a b c)) : Det (fun k => bndK x fun a b c => f a b c k) := by
 cases x <;> first | exact hf _ _ _ | exact Det.fail | exact Det.on_iv hf
theorem decB_det (a b : Bool) : Det (decB a b) := by cases a <;> cases b <;> first | exact Det.fail | exact Det.ret _
theorem ivB_det (op : BinOp) (kd : IntKind) (a b c d : Nat) : Det (ivB op kd a b c d) := by
 cases op
 case add => exact det_ifT (det_ifT (det_ifT (Det.ret (α := AV) _)))
 case sub => exact det_ifT (det_ifT (det_ifT (Det.ret (α := AV) _)))
 case eql => exact decB_det false (orB (Nat.blt b c) (Nat.blt d a))
 case neq => exact decB_det (orB (Nat.blt b c) (Nat.blt d a)) false
 case lss => exact decB_det (Nat.blt b c) (Nat.ble d a)
 case leq => exact decB_det (Nat.ble b c) (Nat.blt d a)
 case gtr => exact decB_det (Nat.blt d a) (Nat.ble b c)
 case geq => exact decB_det (Nat.ble d a) (Nat.blt b c)
 all_goals exact Det.fail
theorem ivP_det (op : BinOp) (x y : AV) : Det (ivP op x y) := bndK_det fun kd a b => bndK_det fun ke c d => det_ifT (ivB_det op kd a b c d)
theorem ikY_det (op : BinOp) (x y : AV) : Det (ikY op x y) := Det.yK (f := fun _ => ivP op x y) (fun _ => ivP_det op x y) (g := fun k => y.yK (fun _ => ivP op x y k) (ikK op x y k)) (Det.yK (f := fun _ => ivP op x y) (fun _ => ivP_det op x y) (ikK_det op x y))
theorem shkK_det (op : BinOp) (x y : AV) : Det (shkK op x y) := Det.on_i fun kd a => Det.on_i fun _ b => shK_det op kd a b
theorem stK_det (op : BinOp) (x y : AV) : Det (stK op x y) := Det.on_s fun n l => Det.on_s fun m r => sbK_det op n l m r
theorem stY_det (op : BinOp) (x y : AV) : Det (stY op x y) := osK_det (stK_det op x y) (eqB_det op true)
theorem bbK_det (op : BinOp) (x y : AV) : Det (bbK op x y) := Det.on_b fun a => Det.on_b fun b => eqB_det op (sameB a b)
theorem npK_det (op : BinOp) (x y : AV) : Det (npK op x y) := (nilP_det x).bind fun a => (nilP_det y).bind fun b => det_ifT (eqB_det op (andB a b))
theorem nsK_det (op : BinOp) (x y : AV) : Det (nsK op x y) := (nilS_det x).bind fun a => (nilS_det y).bind fun b => det_ifT (eqB_det op (andB a b))
theorem niK_det (op : BinOp) (x y : AV) : Det (niK op x y) := (nilI_det x).bind fun a => (nilI_det y).bind fun b => det_ifT (eqB_det op (andB a b))
theorem paK_det (P : Program) (t off : Nat) (cs : List AV) : Det (paK P t off cs) := by
 unfold paK
 split
 ·exact Det.ret _
 ·exact lgetK_det _ _
 ·exact Det.fail
theorem efK_det (P : Program) (eq : TypeId → AV → AV → (Bool → Bool) → Bool) (he : ∀ t x y, Det (eq t x y)) (xs ys : List AV) : ∀ fs : List Field, Det (efK P eq xs ys fs)
 | [] => Det.ret true
 | f :: fs => by
  refine Det.bool (g1 := fun k => paK P f.type f.offset xs fun a => paK P f.type f.offset ys fun b => eq f.type a b fun r => Bool.casesOn (motive := fun _ => Bool) r (k false) (efK P eq xs ys fs k)) (g2 := fun _ => false) (f.name == "_") ?_ Det.fail
  exact (paK_det _ _ _ _).bind fun a => (paK_det _ _ _ _).bind fun b => (he _ a b).bind fun r => Det.bool r (Det.ret false) (efK_det P eq he xs ys fs)
theorem eqK_det (P : Program) : ∀ (d : Nat) (t : TypeId) (x y : AV), Det (eqK P d t x y)
 | 0, _, _, _ => Det.fail
 | d + 1, t, x, y => by
  refine Det.congr (fun k => eqK_succ P d t x y k) ?_
  split
  ·exact Det.on_i fun _ _ => Det.on_i fun _ _ => det_ifT (Det.ret _)
  ·exact osK_det (f := fun k => x.on_s fun _ l => y.on_s fun _ r => k (leq l r)) (g := fun k => k true) (Det.on_s fun _ _ => Det.on_s fun _ _ => Det.ret _) (Det.ret true)
  ·exact Det.on_b fun _ => Det.on_b fun _ => Det.ret _
  ·exact Det.bool _ (Det.on_a fun xs => Det.on_a fun ys => efK_det P _ (eqK_det P d) xs ys _) Det.fail
  ·exact Det.fail
theorem sqK_det (P : Program) (op : BinOp) (t : TypeId) (x y : AV) : Det (sqK P op t x y) := (eqK_det P 10000 t x y).bind fun r => eqB_det op r
theorem bopD_det (P : Program) (op : BinOp) (t : TypeId) (xo yo : Operand) (x y : AV) : Det (bopD P op t xo yo x y) := by
 unfold bopD
 split
 ·exact shkK_det _ _ _
 ·exact shkK_det _ _ _
 ·split
  ·exact ikY_det _ _ _
  ·exact stY_det _ _ _
  ·exact bbK_det _ _ _
  ·exact npK_det _ _ _
  ·exact nsK_det _ _ _
  ·split
   ·exact niK_det _ _ _
   ·exact Det.fail
  ·split
   ·exact Det.fail
   ·exact Det.on_a fun xs => Det.on_a fun ys => sqK_det P op t (.a xs) (.a ys)
  ·exact Det.fail
theorem cbK_det (x : AV) (h : Hp) : Det (cbK x h) := by
 cases x <;> first | exact Det.fail | exact Det.ret _ | exact det_on fun _ _ _ => det_ifT ((bytesK_det _).bind fun _ => Det.ret _)
theorem cbY_det (x : AV) (h : Hp) : Det (cbY x h) := Det.yK (α := AV) (f := fun s k => s.on_so fun q i => (HT.getR q h.t).onY fun o => o.on_op fun j => ifT (Nat.beq i j) (k (.y (.os i)))) (fun s => Det.on_so fun q i => Det.onY fun o => Det.on_op fun j => det_ifT (Det.ret _)) (cbK_det x h)
theorem ciY_det (dst : IntKind) (x : AV) : Det (ciY dst x) := Det.yK (α := AV) (f := fun s k => s.on_iv fun kd a b => ifT (Nat.beq (kN kd) 3) (ifT (Nat.beq (kN dst) 3) (ifT (Nat.blt b 18446744073709551616) (k (.y (.iv dst a b)))))) (fun s => Det.on_iv fun _ _ _ => det_ifT (det_ifT (det_ifT (Det.ret _)))) (Det.on_i fun _ _ => Det.natK _ fun _ => Det.ret _)
theorem symLen_det (i : Nat) : Det (symLen i) := Det.ret _
theorem cnvD_det (P : Program) (s t : TypeId) (x : AV) (h : Hp) : Det (cnvD P s t x h) := by
 unfold cnvD
 split
 ·exact ciY_det _ x
 ·exact Det.yK (α := AV) (f := fun s k => s.on_os fun i => k (.y (.os i))) (fun s => Det.on_os fun _ => Det.ret _) (Det.on_s fun _ _ => Det.ret _)
 ·split
  ·exact cbY_det x h
  ·exact Det.fail
 ·exact Det.fail
theorem lnL_det (x : AV) : Det (lnL x) := by cases x <;> first | exact Det.fail | exact Det.ret _
theorem lnSY_det (x : AV) : Det (lnSY x) := Det.yK (α := AV) (f := fun s k => s.on_os fun i => symLen i k) (fun s => Det.on_os fun i => symLen_det i) (Det.on_s fun _ _ => Det.ret _)
theorem lnLY_det (x : AV) : Det (lnLY x) := Det.yK (α := AV) (f := fun s k => Sy.casesOn (motive := fun _ => Bool) s (fun _ => false) (fun _ _ _ => false) (fun _ i => symLen i k) (fun _ a b => k (.y (.iv .i64 (Nat.add a 9223372036854775808) (Nat.add b 9223372036854775808)))) (fun _ _ => false)) (fun s => by cases s <;> first | exact Det.fail | exact symLen_det _ | exact Det.ret _) (lnL_det x)
theorem mmL_det (f : AV → AV → (AV → Bool) → Bool) (hf : ∀ x y, Det (f x y)) : ∀ (ys : List AV) (x : AV), Det (mmL f ys x)
 | [], x => Det.ret x
 | y :: ys, x => (hf x y).bind fun z => mmL_det f hf ys z
theorem bltD_det (P : Program) (b : Builtin) (ts : List TypeId) (args : List AV) (h : Hp) : Det (bltD P b ts args h) := by
 unfold bltD
 split
 ·split
  ·exact lnSY_det _
  ·exact lnLY_det _
  ·exact Det.on_m fun _ => Det.onM fun _ => Det.natK _ fun _ => Det.ret _
  ·exact Det.fail
 ·exact mmL_det _ (fun x y => Det.on_i fun _ _ => Det.on_i fun _ _ => Det.ret _) _ _
 ·exact mmL_det _ (fun x y => Det.on_i fun _ _ => Det.on_i fun _ _ => Det.ret _) _ _
 ·exact Det.fail
theorem nilX_det {α : Type} (m : AV) (lo hi : Option AV) (a : α) : Det (fun k => nilX m lo hi (k a)) := by
 cases hi with
 | none => exact Det.fail
 | some hi => exact (idxK_det m).bind fun _ => (idxK_det hi).bind fun _ => (optK_det lo 0).bind fun _ => det_ifT (det_ifT (det_ifT (Det.ret a)))
theorem sl2K_det (sz : Nat) (q : Q) (o : Nat) (c : AC) (l h : Nat) : Det (sl2K sz q o c l h) := by
 cases c
 ·exact det_ifT (Det.bool _ (Det.ret _) (Det.ret _))
 ·exact det_ifT (Det.bool _ (Det.bool _ (Det.ret _) (Det.ret _)) (Det.ret _))
theorem sl3K_det (sz : Nat) (q : Q) (o l h m : Nat) : Det (sl3K sz q o l h m) := Det.bool _ (Det.ret _) (Det.ret _)
theorem slK_det (sz : Nat) (lo hi mx : Option AV) (x : AV) : Det (slK sz lo hi mx x) := by
 cases x <;> first | exact Det.fail | skip
 case s n s =>
  cases mx with
  | none =>
   show Det fun (k : AV → Bool) => optK hi n fun h => optK lo 0 fun l => ifT (Nat.ble l h) (ifT (Nat.ble h n) (k (AV.s (Nat.sub h l) (List.take (Nat.sub h l) (List.drop l s)))))
   exact (optK_det hi n).bind (g := fun h k => optK lo 0 fun l => ifT (Nat.ble l h) (ifT (Nat.ble h n) (k (AV.s (Nat.sub h l) (List.take (Nat.sub h l) (List.drop l s)))))) fun h => (optK_det lo 0).bind (g := fun l k => ifT (Nat.ble l h) (ifT (Nat.ble h n) (k (AV.s (Nat.sub h l) (List.take (Nat.sub h l) (List.drop l s)))))) fun _ => det_ifT (det_ifT (Det.ret _))
  | some m => exact Det.fail
 case ns =>
  cases mx with
  | none =>
   show Det fun (k : AV → Bool) => optK hi 0 fun h => optK lo 0 fun l => ifT (Nat.ble h 0) (ifT (Nat.ble l 0) (k AV.ns))
   exact (optK_det hi 0).bind (g := fun h k => optK lo 0 fun l => ifT (Nat.ble h 0) (ifT (Nat.ble l 0) (k AV.ns))) fun h => (optK_det lo 0).bind (g := fun l k => ifT (Nat.ble h 0) (ifT (Nat.ble l 0) (k AV.ns))) fun _ => det_ifT (det_ifT (Det.ret _))
  | some m => exact nilX_det m lo hi _
 case se =>
  cases mx with
  | none =>
   show Det fun (k : AV → Bool) => optK hi 0 fun h => optK lo 0 fun l => ifT (Nat.ble h 0) (ifT (Nat.ble l 0) (k AV.se))
   exact (optK_det hi 0).bind (g := fun h k => optK lo 0 fun l => ifT (Nat.ble h 0) (ifT (Nat.ble l 0) (k AV.se))) fun h => (optK_det lo 0).bind (g := fun l k => ifT (Nat.ble h 0) (ifT (Nat.ble l 0) (k AV.se))) fun _ => det_ifT (det_ifT (Det.ret _))
  | some m => exact nilX_det m lo hi _
 case sl q o n c =>
  cases mx with
  | none =>
   show Det fun (k : AV → Bool) => optK hi n fun h => optK lo 0 fun l => ifT (Nat.ble l h) (sl2K sz q o c l h k)
   exact (optK_det hi n).bind (g := fun h k => optK lo 0 fun l => ifT (Nat.ble l h) (sl2K sz q o c l h k)) fun h => (optK_det lo 0).bind (g := fun l k => ifT (Nat.ble l h) (sl2K sz q o c l h k)) fun l => det_ifT (sl2K_det sz q o c l h)
  | some m =>
   cases hi with
   | none => exact Det.fail
   | some hi =>
    show Det fun (k : AV → Bool) => idxK m fun m => idxK hi fun h => optK lo 0 fun l => ifT (Nat.ble l h) (ifT (Nat.ble h m) (ifT (Nat.ble m c.lim) (sl3K sz q o l h m k)))
    exact (idxK_det m).bind (g := fun m k => idxK hi fun h => optK lo 0 fun l => ifT (Nat.ble l h) (ifT (Nat.ble h m) (ifT (Nat.ble m c.lim) (sl3K sz q o l h m k)))) fun m => (idxK_det hi).bind (g := fun h k => optK lo 0 fun l => ifT (Nat.ble l h) (ifT (Nat.ble h m) (ifT (Nat.ble m c.lim) (sl3K sz q o l h m k)))) fun h => (optK_det lo 0).bind (g := fun l k => ifT (Nat.ble l h) (ifT (Nat.ble h m) (ifT (Nat.ble m c.lim) (sl3K sz q o l h m k)))) fun l => det_ifT (det_ifT (det_ifT (sl3K_det sz q o l h m)))
theorem mfK_det {α : Type} (s : Bool) (x : AV) (n : (α → Bool) → Bool) (f : AV → (α → Bool) → Bool) (hn : Det n) (hf : ∀ y, Det (f y)) : ∀ es : List (AV × AV), Det (fun k => mfK s x es (n k) fun y => f y k)
 | [] => hn
 | e :: es => (kqK_det s x e.1).bind fun r => Det.bool r (mfK_det s x n f hn hf es) (hf e.2)
theorem fin2_det (ok : Bool) (x : AV) (b : Bool) : Det (fin2 ok x b) := Det.bool _ (Det.ret _) (Det.ret _)
theorem lkK_det (s ok : Bool) (z m x : AV) (h : Hp) : Det (lkK s ok z m x h) := by
 cases m <;> first | exact Det.fail | exact fin2_det _ _ _ | exact Det.onM fun es => mfK_det s x _ _ (fin2_det ok z false) (fun y => fin2_det ok y true) es
theorem taK_det (asL : Nat) (z x : AV) : Det (taK asL z x) := by
 cases x <;> first | exact Det.fail | exact Det.ret _ | exact Det.bool _ (Det.ret _) (Det.ret _)
theorem iaK_det (sz : Nat) (x i : AV) : Det (iaK sz x i) := by
 delta iaK
 exact (idxK_det i).bind (g := fun i (k : AV → Bool) => x.on_sl fun q o n _ => ifT (Nat.blt i n) (k (.p q (Nat.add o (Nat.mul i sz))))) fun _ => Det.on_sl fun _ _ _ _ => det_ifT (Det.ret _)
theorem iapK_det (n sz : Nat) (x i : AV) : Det (iapK n sz x i) := by
 delta iapK
 exact (idxK_det i).bind (g := fun i (k : AV → Bool) => x.on_p fun q o => ifT (Nat.blt i n) (k (.p q (Nat.add o (Nat.mul i sz))))) fun _ => det_on_p fun _ _ => det_ifT (Det.ret _)
theorem ixK_det (x i : AV) : Det (ixK x i) := by
 delta ixK
 exact (idxK_det i).bind (g := fun i (k : AV → Bool) => x.on_s fun _ l => lgetK l i fun b => k (byteAV b)) fun i => Det.on_s fun _ l => (lgetK_det l i).bind fun _ => Det.ret _
theorem sapK_det (n sz : Nat) (lo hi : Option AV) (x : AV) : Det (sapK n sz lo hi x) := det_on_p fun q o => (optK_det hi n).bind (g := fun h k => optK lo 0 fun l => ifT (Nat.ble l h) (ifT (Nat.ble h n) (sl3K sz q o l h n k))) fun h => (optK_det lo 0).bind (g := fun l k => ifT (Nat.ble l h) (ifT (Nat.ble h n) (sl3K sz q o l h n k))) fun l => det_ifT (det_ifT (sl3K_det sz q o l h n))
theorem slsK_det (lo hi mx : Option AV) (x : AV) : Det (slsK lo hi mx x) := Det.on_s fun n l => slK_det 0 lo hi mx (.s n l)
theorem sllK_det (sz : Nat) (lo hi mx : Option AV) (x : AV) : Det (sllK sz lo hi mx x) := (nilS_det x).bind fun _ => slK_det sz lo hi mx x
theorem blK_det (ps : List (Nat × Nat × AV)) (z : List AV) : Det (blK ps z) := (bldK_det ps z).bind fun _ => Det.ret _
theorem fdK_det (off : Nat) (g : Bool) (n : Nat) (x : AV) : Det (fdK off g n x) := Det.on_a fun _ => Det.bool g (lgetK_det _ _) (Det.ret _)
theorem lightD_det (P : Program) (op : Op) (f : Operand → AV) (h : Hp) : Det (fun k => lightD P op f h k) := by
 cases op <;> (try exact Det.fail)
 case move x => exact Det.ret _
 case assign x => exact Det.ret _
 case pick c a b => exact Det.on_b fun _ => Det.ret _
 case build t parts =>
  simp only [lightD]
  cases bldOk P t with
  | false => exact Det.fail
  | true => cases plc P t (zeroCs P t).length f parts.toList with
   | none => exact Det.fail
   | some ps => exact blK_det _ _
 case load t a =>
  simp only [lightD]
  rcases aggOf P t with _ | ⟨_ | _, n⟩
  ·exact Det.fail
  ·exact det_on_p fun _ _ => det_on fun _ _ _ => det_ifT (Det.ret _)
  ·exact det_on_p fun _ _ => det_on fun _ _ _ => det_ifT (Det.ret _)
 case nilCheck x => exact det_on_p fun _ _ => Det.ret _
 case binOp op t x y yt => exact bopD_det _ _ _ _ _ _ _
 case unOp op t x =>
  cases op
  case neg => exact Det.on_i fun _ _ => Det.natK _ fun _ => Det.ret _
  case xor => exact Det.on_i fun _ _ => ibK_det _ _ _ _
  case not => exact Det.on_b fun _ => Det.ret _
  case plus => exact Det.fail
 case convert s t x => exact cnvD_det _ _ _ _ _
 case makeInterface t x =>
  simp only [lightD]
  cases notI P t with
  | false => exact Det.fail
  | true => exact Det.ret _
 case makeFunc fn first captured => cases fn <;> first | exact Det.fail | exact Det.ret _
 case slice t x lo hi mx =>
  simp only [lightD]
  rcases P.underlying t with _ | d
  ·exact Det.fail
  ·cases d <;> dsimp only <;> (try exact Det.fail)
   case string => exact slsK_det _ _ _ _
   case slice e => cases szOf P e with
    | none => exact Det.fail
    | some sz => exact sllK_det _ _ _ _ _
   case array n e => cases szOf P e with
    | none => exact Det.fail
    | some sz => cases mx with
     | none => exact sapK_det _ _ _ _ _
     | some m => exact Det.fail
 case fieldAddr s x i =>
  simp only [lightD]
  cases faOf P s i with
  | none => exact Det.fail
  | some off => exact det_on_p fun _ _ => Det.ret _
 case field s x i =>
  simp only [lightD]
  rcases fdOf P s i with _ | ⟨off, g, n⟩
  ·exact Det.fail
  ·exact fdK_det _ _ _ _
 case indexAddr t x i =>
  simp only [lightD]
  rcases P.underlying t with _ | d
  ·exact Det.fail
  ·cases d <;> dsimp only <;> (try exact Det.fail)
   case slice e => cases szOf P e with
    | none => exact Det.fail
    | some sz => exact iaK_det _ _ _
   case array n e => cases szOf P e with
    | none => exact Det.fail
    | some sz => exact iapK_det _ _ _ _
 case index t x i =>
  simp only [lightD]
  rcases P.underlying t with _ | d
  ·exact Det.fail
  ·cases d <;> dsimp only <;> (try exact Det.fail)
   case string => exact ixK_det _ _
 case lookup t m x ok =>
  simp only [lightD]
  rcases mapOf P t with _ | ⟨kt, et⟩
  ·exact Det.fail
  ·dsimp only
   cases kdOf P kt with
   | none => exact Det.fail
   | some str => cases (P.info? et).bind (·.zero) with
    | none => exact Det.fail
    | some z => exact lkK_det _ _ _ _ _ _
 case typeAssert x xt asL ok =>
  simp only [lightD]
  cases notI P asL with
  | false => exact Det.fail
  | true => cases (P.info? asL).bind (·.zero) with
   | none => exact Det.fail
   | some z => cases ok with
    | false => exact Det.fail
    | true => exact taK_det _ _ _
 case extract x i => exact Det.on_t fun _ => lgetK_det _ _
 case call c =>
  obtain ⟨callee, args, ts⟩ := c
  cases callee <;> first | exact Det.fail | exact bltD_det _ _ _ _ _
theorem nbK_det (ty m : Nat) (cs : List AV) (h : Hp) : Det2 (nbK ty m cs h) := (setL_det cs .z 0).to2 fun _ => Det2.setK _ _ _ fun _ => Det2.succK _ fun _ => Det2.ret _ _
theorem stL_det (m : Nat) (x y : AV) (h : Hp) : Det (stL m x y h) := det_on_p fun _ _ => (cellsK_det y m).bind fun cs => det_on fun _ _ v => det_ifT ((setL_det cs v _).bind fun _ => Det.setK _ _ _ fun _ => Det.ret _)
theorem boxK_det (ty m : Nat) (x : AV) (h : Hp) : Det2 (boxK ty m x h) := (cellsK_det x m).to2 fun cs => (nbK_det ty m cs h).bind2 fun _ _ => Det2.ret _ _
theorem bsK_det (el sz n m : Nat) (xs : List AV) (h : Hp) : Det2 (bsK el sz n m xs h) := (catK_det sz xs).to2 fun cs => (nbK_det el m cs h).bind2 fun _ _ => Det2.ret _ _
theorem sb2K_det (el : Nat) (x : AV) (h : Hp) : Det2 (sb2K el x h) := Det2.on_s fun n l => det2_ifT <| (nbK_det el n (List.map byteAV l) h).bind2 fun _ _ => Det2.ret _ _
theorem mmD_det (h : Hp) : Det2 (mmD h) := Det2.setK _ _ _ fun _ => Det2.succK _ fun _ => Det2.ret _ _
theorem rsD_det (x : AV) (h : Hp) : Det2 (rsD x h) := Det2.on_s fun _ _ => Det2.setK _ _ _ fun _ => Det2.succK _ fun _ => Det2.ret _ _
theorem nsD_det (x : AV) (h : Hp) : Det2 (nsD x h) := by
 refine det2_on_p fun q o => det2_ifT (Det2.onS fun pos l => ?_)
 cases l with
 | nil => exact Det2.ret _ _
 | cons b t => exact det2_ifT (Det2.natK _ fun _ => Det2.setK _ _ _ fun _ => Det2.ret _ _)
theorem muD_det (s : Bool) (m x z : AV) (h : Hp) : Det (muD s m x z h) := Det.on_m fun _ => Det.onM fun es => (muK_det s x z es).bind fun _ => Det.setK _ _ _ fun _ => Det.ret _
theorem mdD_det (s : Bool) (m x : AV) (h : Hp) : Det (mdD s m x h) := Det.on_m fun _ => Det.onM fun es => (mdK_det s x es).bind fun _ => Det.setK _ _ _ fun _ => Det.ret _
theorem bK_det (o : Nat) (v : V) (m : Nat) (cs : List AV) : Det (bK o v m cs) := Det.bool _ (setL_det _ _ _) (setL_det _ _ _)
theorem srcK_det {α β : Type} (sz : Nat) (y : AV) (h : Hp) (g : Nat → List AV → (α → β → Bool) → Bool) (hg : ∀ n cs, Det2 (g n cs)) : Det2 (fun k => srcK sz y h fun n cs => g n cs k) := by
 cases y <;> first | exact Det2.fail | exact hg _ _ | exact det2_ifT (hg _ _) | exact det2_on fun _ _ _ => det2_ifT (hg _ _)
theorem apK_det (el sz : Nat) (x y : AV) (h : Hp) : Det2 (apK el sz x y h) := by
 refine srcK_det sz y h _ fun n cs => ?_
 cases x <;> first | exact Det2.fail | skip
 case ns => exact Det2.bool _ (det2_ifT ((nbK_det _ _ _ _).bind2 fun _ _ => Det2.ret _ _)) (Det2.ret _ _)
 case se => exact Det2.bool _ Det2.fail (Det2.ret _ _)
 case sl q o len c =>
  refine Det2.bool _ (det2_ifT (det2_on fun ty m v => ?_)) (Det2.ret _ _)
  cases c with
  | k cc => exact Det2.bool _ (det2_ifT ((bK_det _ _ _ _).to2 fun _ => Det2.setK _ _ _ fun _ => Det2.succK _ fun _ => Det2.ret _ _)) (det2_ifT ((setL_det _ _ _).to2 fun _ => Det2.setK _ _ _ fun _ => Det2.ret _ _))
  | u d b => exact Det2.bool _ (det2_ifT (det2_ifT (det2_ifT ((bK_det _ _ _ _).to2 fun _ => Det2.setK _ _ _ fun _ => Det2.setK _ _ _ fun _ => Det2.succK _ fun _ => Det2.ret _ _)))) (det2_ifT ((setL_det _ _ _).to2 fun _ => Det2.setK _ _ _ fun _ => Det2.ret _ _))
theorem sb2Y_det (el : Nat) (x : AV) (h : Hp) : Det2 (sb2Y el x h) := Det2.yK (x := x) (α := AV) (β := Hp) (g := sb2K el x h) (f := fun s k => s.on_os fun i => HT.setK (.y (.op i)) h.nx h.t fun t' => h.nx.succK fun n' => k (.y (.so h.nx i)) (Hp.mk t' n')) (fun s => Det2.on_os fun i => Det2.setK _ _ _ fun _ => Det2.succK _ fun _ => Det2.ret _ _) (sb2K_det el x h)
theorem srcY_det {α β : Type} (y : AV) (h : Hp) (g : Nat → Nat → (α → β → Bool) → Bool) (hg : ∀ a b, Det2 (g a b)) : Det2 (fun k => srcY y h fun a b => g a b k) := by
 refine Det2.yK (f := fun s k => Sy.casesOn (motive := fun _ => Bool) s (fun i => g (syLo i) (syHi i) k) (fun _ _ _ => false) (fun q i => (HT.getR q h.t).onY fun o => o.on_op fun j => ifT (Nat.beq i j) (g (syLo i) (syHi i) k)) (fun q a b => (HT.getR q h.t).onY fun o => o.on_soup fun _ => g a b k) (fun _ _ => false)) (g := fun k => srcK 1 y h fun n cs => bytesK cs fun _ => g n n k) (fun s => ?_) ?_
 ·cases s with
  | os i => exact hg _ _
  | iv => exact Det2.fail
  | so q i => exact Det2.onY fun o => Det2.on_op fun j => det2_ifT (hg _ _)
  | su q a b => exact Det2.onY fun o => Det2.on_soup fun _ => hg _ _
  | sv => exact Det2.fail
 ·exact srcK_det 1 y h (fun n cs k => bytesK cs fun _ => g n n k) fun n cs => (bytesK_det cs).to2 fun _ => hg n n
theorem dstY_det {α β : Type} (el : Nat) (x : AV) (h : Hp) (g : HT → Nat → Nat → Nat → (α → β → Bool) → Bool) (hg : ∀ t a b c, Det2 (g t a b c)) : Det2 (fun k => dstY el x h fun t a b c => g t a b c k) := by
 cases x <;> first | exact Det2.fail | exact hg _ _ _ _ | skip
 case sl q o n c =>
  cases c with
  | k => exact Det2.fail
  | u d b => exact det2_ifT (det2_ifT (det2_on fun ty m v => det2_ifT (det2_ifT ((bytesK_det _).to2 fun _ => Det2.setK _ _ _ fun _ => hg _ _ _ _))))
 case y s =>
  cases s with
  | su q a b => exact Det2.onY fun o => Det2.on_soup fun _ => det2_ifT (Det2.setK _ _ _ fun _ => hg _ _ _ _)
  | _ => exact Det2.fail
theorem suK_det (el : Nat) (t0 : HT) (a b : Nat) (h : Hp) : Det2 (suK el t0 a b h) := Det2.setK _ _ _ fun _ => Det2.succK _ fun _ => Det2.ret _ _
theorem apS_det (el : Nat) (x y : AV) (h : Hp) : Det2 (apS el x y h) :=
 srcY_det y h (fun a b k => dstY el x h fun t0 c d need => ifT (Nat.ble need a) (ifT (Nat.ble (Nat.add b d) 1000000) (natK (Nat.add a c) fun lo => natK (Nat.add b d) fun hi => suK el t0 lo hi h k))) fun a b =>
  dstY_det el x h (fun t0 c d need k => ifT (Nat.ble need a) (ifT (Nat.ble (Nat.add b d) 1000000) (natK (Nat.add a c) fun lo => natK (Nat.add b d) fun hi => suK el t0 lo hi h k))) fun t0 c d need =>
   det2_ifT (det2_ifT (Det2.natK _ fun _ => Det2.natK _ fun _ => suK_det _ _ _ _ _))
theorem apY_det (el sz : Nat) (x y : AV) (h : Hp) : Det2 (apY el sz x y h) :=
 Det2.yK (α := AV) (f := fun _ k => ifT (Nat.beq sz 1) (apS el x y h k)) (g := fun k => y.yK (fun _ => ifT (Nat.beq sz 1) (apS el x y h k)) (apK el sz x y h k)) (fun _ => det2_ifT (apS_det el x y h)) (Det2.yK (α := AV) (f := fun _ k => ifT (Nat.beq sz 1) (apS el x y h k)) (fun _ => det2_ifT (apS_det el x y h)) (apK_det el sz x y h))
theorem clD_det (sz : Nat) (zc : List AV) (x : AV) (h : Hp) : Det (clD sz zc x h) := by
 cases x <;> first | exact Det.fail | exact Det.ret _ | skip
 case sl q o n c => exact Det.bool _ (det_on fun _ _ _ => det_ifT ((setL_det _ _ _).bind fun _ => Det.setK _ _ _ fun _ => Det.ret _)) (Det.ret _)
theorem ivK_det {P : Program} {T : Tbl} (hT : SoundT P T) (M : List (Nat × Nat)) (x : AV) (args : List AV) (h : Hp) : Det2 (ivK M T x args h) := by
 refine Det2.on_e fun t v => ?_
 induction M with
 | nil => exact Det2.fail
 | cons m M ih => exact Det2.bool _ ih (Tbl.get_det hT _ _ _)
theorem callD_det {P : Program} {T : Tbl} (hT : SoundT P T) (M : List (Nat × Nat)) (c : Callee) (ts : List TypeId) (args : List AV) (f : Operand → AV) (h : Hp) : Det2 (fun k => callD P T M c ts args f h k) := by
 cases c with
 | builtin b =>
  cases b <;> (try exact Det2.fail)
  case append =>
   rcases ts with _ | ⟨t, _ | ⟨u, _ | ⟨t3, ts⟩⟩⟩ <;> (try exact Det2.fail)
   rcases args with _ | ⟨x, _ | ⟨y, _ | ⟨z, args⟩⟩⟩ <;> (try exact Det2.fail)
   simp only [callD]
   cases sliceOf P t with
   | none => exact Det2.fail
   | some e =>
    dsimp only
    cases szOf P e with
    | none => exact Det2.fail
    | some sz =>
     dsimp only
     cases elemOk P e sz && isSeq P u with
     | false => exact Det2.fail
     | true => exact apY_det _ _ _ _ _
  case clear =>
   rcases ts with _ | ⟨t, _ | ⟨u, ts⟩⟩ <;> (try exact Det2.fail)
   rcases args with _ | ⟨x, _ | ⟨y, args⟩⟩ <;> (try exact Det2.fail)
   simp only [callD]
   cases sliceOf P t with
   | none => exact Det2.fail
   | some e =>
    dsimp only
    cases szOf P e with
    | none => exact Det2.fail
    | some sz =>
     dsimp only
     cases elemOk P e sz && ((P.info? e).bind (·.zero)).any (fun z => z.cells.toList.all Value.oneCell') with
     | false => exact Det2.fail
     | true => exact (clD_det _ _ _ _).to2 fun _ => Det2.ret _ _
  case delete =>
   rcases ts with _ | ⟨t, _ | ⟨u, _ | ⟨t3, ts⟩⟩⟩ <;> (try exact Det2.fail)
   rcases args with _ | ⟨x, _ | ⟨y, _ | ⟨z, args⟩⟩⟩ <;> (try exact Det2.fail)
   simp only [callD]
   rcases mapOf P t with _ | ⟨kt, et⟩
   ·exact Det2.fail
   ·dsimp only
    cases kdOf P kt with
    | none => exact Det2.fail
    | some str => exact (mdD_det _ _ _ _).to2 fun _ => Det2.ret _ _
 | value v => cases v <;> first | exact Tbl.get_det hT _ _ _ | exact Det2.on_f fun _ _ _ => Tbl.get_det hT _ _ _
 | invoke r name =>
  simp only [callD]
  cases M.all (methOk P name) with
  | false => exact Det2.fail
  | true => exact ivK_det hT _ _ _ _
theorem heavyD_det {P : Program} {T : Tbl} (hT : SoundT P T) (M : List (Nat × Nat)) (op : Op) (f : Operand → AV) (h : Hp) : Det2 (fun k => heavyD P T M op f h k) := by
 cases op <;> (try exact Det2.fail)
 case alloc t =>
  simp only [heavyD]
  cases (P.info? t).bind (·.zero) with
  | none => exact Det2.fail
  | some z => exact boxK_det _ _ _ _
 case box t x => exact boxK_det _ _ _ _
 case buildSlice t n parts =>
  simp only [heavyD]
  cases sliceOf P t with
  | none => exact Det2.fail
  | some e =>
   dsimp only
   cases szOf P e with
   | none => exact Det2.fail
   | some sz =>
    dsimp only
    cases elemOk P e sz && dense 0 parts.toList && Nat.beq parts.toList.length n && Nat.ble (Nat.mul n sz) 1000000 with
    | false => exact Det2.fail
    | true => exact bsK_det _ _ _ _ _ _
 case insert t m x z =>
  simp only [heavyD]
  rcases mapOf P t with _ | ⟨kt, et⟩
  ·exact Det2.fail
  ·dsimp only
   cases kdOf P kt with
   | none => exact Det2.fail
   | some str => exact (muD_det _ _ _ _ _).to2 fun _ => Det2.ret _ _
 case mapUpdate t m x z =>
  simp only [heavyD]
  rcases mapOf P t with _ | ⟨kt, et⟩
  ·exact Det2.fail
  ·dsimp only
   cases kdOf P kt with
   | none => exact Det2.fail
   | some str => exact (muD_det _ _ _ _ _).to2 fun _ => Det2.ret _ _
 case store t x z =>
  simp only [heavyD]
  rcases aggOf P t with _ | ⟨g, n⟩
  ·exact Det2.fail
  ·exact (stL_det _ _ _ _).to2 fun _ => Det2.ret _ _
 case convert s t x =>
  simp only [heavyD]
  cases isStr P s with
  | false => exact Det2.fail
  | true => cases sliceOf P t with
   | none => exact Det2.fail
   | some e =>
    dsimp only
    cases u8Of P e with
    | false => exact Det2.fail
    | true => exact sb2Y_det _ _ _
 case makeMap t r => cases r with
  | none => exact mmD_det _
  | some r => exact Det2.fail
 case range t x =>
  simp only [heavyD]
  cases isStr P t with
  | false => exact Det2.fail
  | true => exact rsD_det _ _
 case next x b => cases b with
  | false => exact Det2.fail
  | true => exact nsD_det _ _
 case call c => exact callD_det hT M _ _ _ f h
theorem opD_det {P : Program} {T : Tbl} (hT : SoundT P T) (M : List (Nat × Nat)) (op : Op) (f : Operand → AV) (h : Hp) : Det2 (fun k => opD P T M op f h k) := by
 simp only [opD]
 cases isHeavy P op with
 | true => exact heavyD_det hT M op f h
 | false => exact (lightD_det P op f h).to2 (g := fun y k => k y h) fun y => Det2.ret y h
theorem gdK_det {α β : Type} (x : AV) (want : Bool) {f : (AV → Hp → Bool) → Bool} {g : AV → Hp → (α → β → Bool) → Bool} (h : Hp) (hf : Det2 f) (hg : ∀ y h, Det2 (g y h)) : Det2 (fun k => gdK x want f (fun y h' => g y h' k) h) := by
 cases x <;> first | exact Det2.fail | exact hg _ _ | exact Det2.bool _ (hg _ _) (hf.bind2 hg)
theorem gopD_det {P : Program} {T : Tbl} (hT : SoundT P T) (M : List (Nat × Nat)) (all : List Oper) (o : Oper) (env : List AV) (h : Hp) : Det2 (fun k => gopD P T M all o env h k) := by
 simp only [gopD]
 rcases o.guard with _ | ⟨j, want⟩
 ·exact opD_det hT M _ _ _
 ·dsimp only
  cases (all[j]?).bind (·.dst) with
  | none => exact Det2.fail
  | some d => exact gdK_det _ _ h (opD_det hT M _ _ _) (g := fun y h' k => k y h') fun y h' => Det2.ret y h'
section
variable {P : Program} {ρ : Q → Loc} {h : Hp} {w : World} {B : Nat} {T : Tbl} {M : List (Nat × Nat)}
theorem rel_fn (ρ : Q → Loc) (N : Nat) (f : Nat) : Rel ρ N (.f f [] []) (.func (.func f) #[] #[]) := .f f [] [] [] [] .nil .nil
theorem evA_rel {N : Nat} {env : List AV} {a : Act} {x : Operand} (hx : ∀ t ∈ opT x, Rel ρ N (env.getD t .d) (a.tmps.getD t undef)) : Rel ρ N (evA env x) (a.eval x) := by
 cases x with
 | tmp t => exact hx t (by simp [opT])
 | const v => exact cva_rel _ _ _
 | global g => exact .d _
 | func f => exact rel_fn _ _ _
theorem opD_sound (E : Emb P ρ h w B) (hT : SoundT P T) (o : Oper) {f : Operand → AV} {a : Act} (hfg : ∀ x ∈ o.op.operands, Rel ρ h.nx.num (f x) (a.eval x)) {k : AV → Hp → Bool} (hk : opD P T M o.op f h k = true) {next : Act → World → Prop} (H : Nx P ρ h w B o a next k) {QQ : Exit → Act → World → Prop} : o.wp P a w next QQ := by
 unfold opD at hk
 split at hk
 ·exact heavyD_sound E hT o hfg hk H
 ·obtain ⟨y, v, h1, h2, h3⟩ := lightD_sound E o hfg hk
  exact wp_of_value h1 (H y v w ρ h E (Step.refl _ _ _) h2 h3)
def seenT (all : List Oper) (o : Oper) : List Nat := o.op.operands.toList.flatMap opT ++ match o.guard with
 | none => []
 | some (j, _) => ((all[j]?).bind (·.dst)).toList
theorem gopD_sound (E : Emb P ρ h w B) (hT : SoundT P T) (ops : Array Oper) (o : Oper) {env : List AV} {a : Act} (hn : ∀ t ∈ seenT ops.toList o, Rel ρ h.nx.num (env.getD t .d) (a.tmps.getD t undef)) {k : AV → Hp → Bool} (hk : gopD P T M ops.toList o env h k = true) {next : Act → World → Prop} (H : Nx P ρ h w B o a next k) {QQ : Exit → Act → World → Prop} :
  if Region.wanted o (yielded ops a.tmps) then o.wp P a w next QQ else next (a.put o.dst undef) w := by
 have hfg : ∀ x ∈ o.op.operands, Rel ρ h.nx.num (evA env x) (a.eval x) := fun x hx => evA_rel fun t ht => hn t (by
  unfold seenT
  exact List.mem_append_left _ (List.mem_flatMap.2 ⟨x, by simpa using hx, ht⟩))
 unfold gopD at hk
 cases hg : o.guard with
 | none =>
  rw [hg] at hk
  have hw : Region.wanted o (yielded ops a.tmps) = true := by simp [Region.wanted, hg]
  rw [if_pos hw]
  exact opD_sound E hT o hfg hk H
 | some jw =>
  obtain ⟨j, want⟩ := jw
  rw [hg] at hk
  dsimp only at hk
  cases hd : (ops.toList[j]?).bind (·.dst) with
  | none => rw [hd] at hk; cases hk
  | some d =>
   rw [hd] at hk
   dsimp only at hk
   have hrel := hn d (by
    unfold seenT
    rw [hg]
    exact List.mem_append_right _ (by simp only [hd]; simp))
   have hd' : (ops[j]?).bind (·.dst) = some d := by rw [← Array.getElem?_toList]; exact hd
   have hskip : (∀ b, a.tmps[d]? ≠ some (.bool b)) → k (.t []) h = true → (if Region.wanted o (yielded ops a.tmps) then o.wp P a w next QQ else next (a.put o.dst undef) w) := fun hnb hk => by
    have hw : Region.wanted o (yielded ops a.tmps) = false := by
     simp only [Region.wanted, hg, yielded, hd', Option.bind_some]
     cases ht : a.tmps[d]? with
     | none => rfl
     | some v => cases v <;> first | rfl | exact (hnb _ ht).elim
    rw [hw]
    exact H _ _ w ρ h E (Step.refl _ _ _) (rel_unit _ _) hk
   generalize env.getD d .d = x at hk hrel
   generalize hv : a.tmps.getD d undef = tv at hrel
   rw [Array.getD_eq_getD_getElem?] at hv
   cases x <;> first | (cases hk; done) | skip
   case b y =>
    have ht : a.tmps[d]? = some (.bool y) := by
     cases hrel
     cases ht : a.tmps[d]? with
     | none => rw [ht] at hv; cases hv
     | some v => rw [ht] at hv; exact congrArg some hv
    have hk : Bool.casesOn (motive := fun _ => Bool) (sameB y want) (k (.t []) h) (opD P T M o.op (evA env) h k) = true := hk
    cases hs : sameB y want with
    | true =>
     rw [hs] at hk
     rw [sameB_eq] at hs
     have hw : Region.wanted o (yielded ops a.tmps) = true := by simp only [Region.wanted, hg, yielded, hd', Option.bind_some, ht]; simpa using hs
     rw [if_pos hw]
     exact opD_sound E hT o hfg hk H
    | false =>
     rw [hs] at hk
     rw [sameB_eq] at hs
     have hw : Region.wanted o (yielded ops a.tmps) = false := by
      simp only [Region.wanted, hg, yielded, hd', Option.bind_some, ht]
      simpa using hs
     rw [hw]
     exact H _ _ w ρ h E (Step.refl _ _ _) (rel_unit _ _) hk
   case t cs =>
    refine hskip (fun b ht => ?_) hk
    cases hrel
    rw [ht] at hv
    cases hv
def KN (P : Program) (L : Nat) (ρ : Q → Loc) (h : Hp) (w : World) (B : Nat) (k : List AV → Hp → Bool) (N : Act → World → Prop) : Prop :=
 ∀ env' h' ρ' w' a', Emb P ρ' h' w' B → Step ρ h w ρ' h' w' → Env ρ' h'.nx.num env' a' → env'.length = L → k env' h' = true → N a' w'
theorem KN.step {L : Nat} {k : List AV → Hp → Bool} {N : Act → World → Prop} {ρ1 : Q → Loc} {h1 : Hp} {w1 : World} (H : KN P L ρ h w B k N) (s : Step ρ h w ρ1 h1 w1) : KN P L ρ1 h1 w1 B k N := fun env' h' ρ' w' a' E s' en hl hk => H env' h' ρ' w' a' E (s.trans s') en hl hk
theorem Env.setP {N : Nat} {env : List AV} {a : Act} (h : Env ρ N env a) (d : Option Nat) {x : AV} {v : Value} (hx : Rel ρ N x v) : Env ρ N (setP d x env) (a.put d v) := by
 cases d with
 | none => exact h.put_none v
 | some d => exact h.put d hx
theorem setP_length (d : Option Nat) (x : AV) (env : List AV) : (setP d x env).length = env.length := by
 cases d with
 | none => rfl
 | some d => exact List.length_set
theorem opsD_sound (hT : SoundT P T) (ops : Array Oper) {QQ : Exit → Act → World → Prop} {L : Nat} : ∀ (l : List Oper) {env : List AV} {a : Act} {ρ : Q → Loc} {h : Hp} {w : World} {k : List AV → Hp → Bool}, Emb P ρ h w B → Env ρ h.nx.num env a → env.length = L → opsD P T M ops.toList l env h k = true → KN P L ρ h w B k (QQ .normal) → wpList P ops QQ l a w
 | [], env, a, ρ, h, w, k, E, en, hl, hk, H => H env h ρ w a E (Step.refl _ _ _) en hl hk
 | o :: l, env, a, ρ, h, w, k, E, en, hl, hk, H => by
  have hk : gopD P T M ops.toList o env h (fun y h' => setO o.dst y env fun env' => opsD P T M ops.toList l env' h' k) = true := hk
  have := gopD_sound (QQ := QQ) (next := wpList P ops QQ l) E hT ops o (fun t _ => en.tmp t) hk (fun y v w' ρ' h' E' s' r' hk' => by
   dsimp only at hk'
   rw [setO_eq] at hk'
   exact opsD_sound hT ops l E' ((en.mono s'.ext s'.nx).setP o.dst r') ((setP_length _ _ _).trans hl) hk' (H.step s'))
  unfold wpList
  split
  ·rename_i hw; rw [if_pos hw] at this; exact .inl this
  ·rename_i hw; rw [if_neg hw] at this; exact this
end
def DrawS (P : Program) (T : Tbl) (M : List (Nat × Nat)) : Prop := ∀ (ops : Array Oper) (ord : List Nat) (env : List AV) (a : Act) (ρ : Q → Loc) (h : Hp) (w : World) (B L : Nat) (k : List AV → Hp → Bool) (QQ : Exit → Act → World → Prop),
 Emb P ρ h w B → Env ρ h.nx.num env a → env.length = L → drawD P T M ops.toList ord env h k = true → KN P L ρ h w B k (QQ .normal) → wpAny P .any ops QQ ops.size (Array.replicate ops.size false) a w
section
variable {P : Program} {ρ : Q → Loc} {h : Hp} {w : World} {B : Nat} {T : Tbl} {M : List (Nat × Nat)}
theorem Emb.drawn (E : Emb P ρ h w B) (n : Nat) : Emb P ρ h { w with drawn := n } B :=
 ⟨E.base, E.lt, E.ge, E.inj, fun q ty m v hg => RowE.mono (w := w) (fun _ _ => rfl) (Nat.le_refl _) rfl (E.row q ty m v hg), fun q es hg => MapAt.mono (w := w) (fun _ _ => rfl) (Nat.le_refl _) rfl (E.map q es hg), fun q o l hg => SiAt.mono (w := w) rfl (E.si q o l hg), fun q i hg => ⟨(E.op q i hg).1, OpAt.mono (w := w) (fun _ _ => rfl) (E.op q i hg).1 rfl (E.op q i hg).2⟩, fun q ty hg => SoupAt.mono (w := w) rfl (E.soup q ty hg), fun q ty q0 us hg => ⟨(E.dm q ty q0 us hg).1, DmAt.mono (w := w) rfl (E.dm q ty q0 us hg).2⟩, E.tab.mono fun _ _ => rfl⟩
theorem Step.drawn (ρ : Q → Loc) (h : Hp) (w : World) (n : Nat) : Step ρ h w ρ h { w with drawn := n } := ⟨fun _ _ => rfl, Nat.le_refl _, Nat.le_refl _, fun _ _ _ => rfl, fun q hq => .inl ⟨q, hq, rfl⟩, rfl, rfl, rfl⟩
def Ex.to : Ex → Exit
 | .n => .normal
 | .x i => .exit i
 | .r => .ret
def KS (P : Program) (L : Nat) (ρ : Q → Loc) (h : Hp) (w : World) (B : Nat) (K : Kt) (QQ : Exit → Act → World → Prop) : Prop :=
 ∀ e env' h' ρ' w' a', Emb P ρ' h' w' B → Step ρ h w ρ' h' w' → Env ρ' h'.nx.num env' a' → env'.length = L → K e env' h' = true → QQ e.to a' w'
theorem KS.step {L : Nat} {K : Kt} {QQ : Exit → Act → World → Prop} {ρ1 : Q → Loc} {h1 : Hp} {w1 : World} (H : KS P L ρ h w B K QQ) (s : Step ρ h w ρ1 h1 w1) : KS P L ρ1 h1 w1 B K QQ := fun e env' h' ρ' w' a' E s' en hl hk => H e env' h' ρ' w' a' E (s.trans s') en hl hk
theorem beK_spec (e0 : List AV) : ∀ (W : List Nat) (env : List AV) (k : List AV → Bool), beK W (sel W e0) env k = true → ∃ env', k env' = true ∧ env'.length = env.length ∧ ∀ t, env'.getD t .d = env.getD t .d ∨ env'.getD t .d = e0.getD t .d
 | [], env, k, hk => ⟨env, hk, rfl, fun _ => .inl rfl⟩
 | i :: W, env, k, hk => by
  have hk : lsK (e0.getD i .d) env i (fun env' => beK W (sel W e0) env' k) = true := hk
  rw [lsK_eq] at hk
  obtain ⟨env', h1, h2, h3⟩ := beK_spec e0 W _ k hk
  refine ⟨env', h1, h2.trans List.length_set, fun t => ?_⟩
  rcases h3 t with e | e
  ·rw [e]
   by_cases hit : i = t
   ·subst hit
    by_cases hl : i < env.length
    ·right; simp [List.getD_eq_getElem?_getD, hl]
    ·left; simp [List.getD_eq_getElem?_getD, List.set_eq_of_length_le (Nat.le_of_not_lt hl)]
   ·left; simp [List.getD_eq_getElem?_getD, List.getElem?_set_ne hit]
  ·exact .inr e
theorem met_sound {N n : Nat} {W : List Nat} {f : List AV → Hp → Bool} {e0 : List AV} {a : Act} (en : Env ρ n e0 a) (hl : e0.length = N) {h : Hp} (hk : capp W.length (clam W.length fun vals h => beK W vals (List.replicate N .d) fun env => f env h) (sel W e0) h = true) : ∃ env', f env' h = true ∧ env'.length = N ∧ Env ρ n env' a := by
 obtain ⟨_, hk2⟩ := capp_clam _ _ _ _ hk
 obtain ⟨env', h1, h2, h3⟩ := beK_spec e0 W _ _ hk2
 rw [List.length_replicate] at h2
 refine ⟨env', h1, h2, ⟨by rw [h2, ← hl]; exact en.size, fun i hi => ?_, en.defers⟩⟩
 rcases h3 i with e | e
 ·rw [e]
  have : (List.replicate N AV.d).getD i .d = .d := by
   rw [List.getD_eq_getElem?_getD]
   by_cases hN : i < N
   ·rw [List.getElem?_replicate, if_pos hN]; rfl
   ·rw [List.getElem?_replicate, if_neg hN]; rfl
  rw [this]
  exact .d _
 ·rw [e]; exact en.tmp i
theorem cdK_spec {x : AV} {a b : Bool} (hk : cdK x a b = true) : ∃ c, x = .b c ∧ (if c then a else b) = true := by
 obtain ⟨c, rfl, hk⟩ := AV.on_b_spec hk
 cases c <;> exact ⟨_, rfl, hk⟩
theorem wp_loop_fuel {c : Code} {QQ : Exit → Act → World → Prop} (I : Nat → Act → World → Prop) (round : ∀ m a w, I m a w → c.wp P (Exit.then (fun a' w' => ∃ m', m' < m ∧ I m' a' w') QQ) a w) {m : Nat} {a : Act} {w : World} (h0 : I m a w) : (Code.loop c).wp P QQ a w := by
 intro b k cs
 have key : ∀ m a w, I m a w → ∃ e a' w', QQ e a' w' ∧ Arrives P (lone (b.at a (.code c :: .inLoop c :: k)) cs w) b k cs e a' w' := by
  intro m
  induction m using Nat.strongRecOn with
  | _ m ih =>
   intro a w hI
   obtain ⟨e, a₁, w₁, hq, harr⟩ := round m a w hI b (.inLoop c :: k) cs
   cases e with
   | normal =>
    obtain ⟨m', hlt, hI₁⟩ := hq
    obtain ⟨e₂, a₂, w₂, hq₂, harr₂⟩ := ih m' hlt a₁ w₁ hI₁
    exact ⟨e₂, a₂, w₂, hq₂, .of_steps (Steps.trans harr (.one step_inLoop)) harr₂⟩
   | exit id => exact ⟨_, a₁, w₁, hq, .pass (x := .inLoop c) rfl (fun _ _ => .inl (by simp)) harr⟩
   | goto l => exact ⟨_, a₁, w₁, hq, .pass (x := .inLoop c) rfl (fun _ _ => .inl (by simp)) harr⟩
   | ret => exact ⟨_, a₁, w₁, hq, .pass (x := .inLoop c) rfl (fun _ _ => .inl (by simp)) harr⟩
   | panic ch => exact ⟨_, a₁, w₁, hq, .pass (x := .inLoop c) rfl (fun _ _ => .inl (by simp)) harr⟩
   | outgrown => exact ⟨_, a₁, w₁, hq, .pass (x := .inLoop c) rfl (fun _ _ => .inl (by simp)) harr⟩
 obtain ⟨e, a', w', hq, harr⟩ := key m a w h0
 exact ⟨e, a', w', hq, .of_steps (.one step_loop) harr⟩
theorem den_sound (hm : P.follows .mixedOrders = true) (hT : SoundT P T) (HD : DrawS P T M) {N : Nat} : ∀ (c : Code) {ann : Ann} {K : Kt} {env : List AV} {a : Act} {ρ : Q → Loc} {h : Hp} {w : World} {QQ : Exit → Act → World → Prop},
  Emb P ρ h w B → Env ρ h.nx.num env a → env.length = N → den P T M N c ann K env h = true → KS P N ρ h w B K QQ → c.wp P QQ a w := by
 intro c
 induction c with
 | skip => intro ann K env a ρ h w QQ E en hl hk H; exact wp_skip (H .n env h ρ w a E (Step.refl _ _ _) en hl hk)
 | region id ops draw =>
  intro ann K env a ρ h w QQ E en hl hk H
  cases draw with
  | false =>
   have hk : opsD P T M ops.toList ops.toList env h (K .n) = true := hk
   exact wp_region_list (opsD_sound hT ops ops.toList E en hl hk fun env' h' ρ' w' a' E' s' en' hl' hk' => H .n env' h' ρ' w' a' E' s' en' hl' hk')
  | true =>
   cases ann <;> first | (cases hk; done) | skip
   case g ord =>
    have hk : drawD P T M ops.toList ord env h (K .n) = true := hk
    exact wp_region_any hm (HD ops ord env a ρ h _ B N (K .n) QQ (E.drawn _) en hl hk fun env' h' ρ' w' a' E' s' en' hl' hk' => H .n env' h' ρ' w' a' E' ((Step.drawn ρ h w _).trans s') en' hl' hk')
 | seq x y ihx ihy =>
  intro ann K env a ρ h w QQ E en hl hk H
  cases ann <;> first | (cases hk; done) | skip
  case s ax ay =>
   have hk : den P T M N x ax (seqK (den P T M N y ay K) K) env h = true := hk
   refine wp_seq (ihx E en hl hk fun e env' h' ρ' w' a' E' s' en' hl' hk' => ?_)
   cases e with
   | n => exact ihy E' en' hl' hk' (H.step s')
   | x i => exact H (.x i) env' h' ρ' w' a' E' s' en' hl' hk'
   | r => exact H .r env' h' ρ' w' a' E' s' en' hl' hk'
 | cond cc x y ihx ihy =>
  intro ann K env a ρ h w QQ E en hl hk H
  have hev : Rel ρ h.nx.num (evA env cc) (a.eval cc) := evA_rel fun t _ => en.tmp t
  cases ann <;> first | (cases hk; done) | skip
  case i ax ay =>
   obtain ⟨b, hb, hk2⟩ := cdK_spec (show cdK (evA env cc) (den P T M N x ax K env h) (den P T M N y ay K env h) = true from hk)
   rw [hb] at hev
   generalize hv : a.eval cc = v at hev
   cases hev
   cases b with
   | true => exact wp_cond_true hv (ihx E en hl hk2 H)
   | false => exact wp_cond_false hv (ihy E en hl hk2 H)
  case j W ax ay =>
   have hk : cdK (evA env cc) (den P T M N x ax (jK W.length (metK N W K) W K) env h) (den P T M N y ay (jK W.length (metK N W K) W K) env h) = true := hk
   obtain ⟨b, hb, hk2⟩ := cdK_spec hk
   rw [hb] at hev
   generalize hv : a.eval cc = v at hev
   cases hev
   have H2 : KS P N ρ h w B (jK W.length (metK N W K) W K) QQ := fun e env' h' ρ' w' a' E' s' en' hl' hk' => by
    cases e with
    | n =>
     obtain ⟨env2, g1, g2, g3⟩ := met_sound en' hl' (f := fun env h => K .n env h) hk'
     exact H .n env2 h' ρ' w' a' E' s' g3 g2 g1
    | x i => exact H (.x i) env' h' ρ' w' a' E' s' en' hl' hk'
    | r => exact H .r env' h' ρ' w' a' E' s' en' hl' hk'
   cases b with
   | true => exact wp_cond_true hv (ihx E en hl hk2 H2)
   | false => exact wp_cond_false hv (ihy E en hl hk2 H2)
 | block id x ihx =>
  intro ann K env a ρ h w QQ E en hl hk H
  have step : ∀ (K2 : Kt), KS P N ρ h w B K2 QQ → KS P N ρ h w B (blkK id K2) (Exit.inBlock id QQ) := fun K2 H2 e env' h' ρ' w' a' E' s' en' hl' hk' => by
   cases e with
   | n => exact H2 .n env' h' ρ' w' a' E' s' en' hl' hk'
   | x i =>
    have hk' : Bool.casesOn (motive := fun _ => Bool) (Nat.beq i id) (K2 (.x i) env' h') (K2 .n env' h') = true := hk'
    show (if i = id then QQ .normal a' w' else QQ (.exit i) a' w')
    cases hb : Nat.beq i id with
    | true =>
     rw [hb] at hk'
     rw [if_pos (Nat.eq_of_beq_eq_true hb)]
     exact H2 .n env' h' ρ' w' a' E' s' en' hl' hk'
    | false =>
     rw [hb] at hk'
     rw [if_neg (Nat.ne_of_beq_eq_false hb)]
     exact H2 (.x i) env' h' ρ' w' a' E' s' en' hl' hk'
   | r => exact H2 .r env' h' ρ' w' a' E' s' en' hl' hk'
  cases ann <;> first | (cases hk; done) | skip
  case b ax => exact wp_block (ihx E en hl (show den P T M N x ax (blkK id K) env h = true from hk) (step K H))
  case k W ax =>
   have hk : den P T M N x ax (blkK id (jK W.length (metK N W K) W K)) env h = true := hk
   have H2 : KS P N ρ h w B (jK W.length (metK N W K) W K) QQ := fun e env' h' ρ' w' a' E' s' en' hl' hk' => by
    cases e with
    | n =>
     obtain ⟨env2, g1, g2, g3⟩ := met_sound en' hl' (f := fun env h => K .n env h) hk'
     exact H .n env2 h' ρ' w' a' E' s' g3 g2 g1
    | x i => exact H (.x i) env' h' ρ' w' a' E' s' en' hl' hk'
    | r => exact H .r env' h' ρ' w' a' E' s' en' hl' hk'
   exact wp_block (ihx E en hl hk (step _ H2))
 | loop x ihx =>
  intro ann K env a ρ h w QQ E en hl hk H
  cases ann <;> first | (cases hk; done) | skip
  case l W ax =>
   let F : CT W.length → CT W.length := fun ih => clam W.length fun vals h' => beK W vals (List.replicate N .d) fun env' => den P T M N x ax (jK W.length ih W K) env' h'
   have hk : capp W.length (lpR W.length F 100000) (sel W env) h = true := hk
   refine wp_loop_fuel (fun m a' w' => ∃ env' h' ρ', Emb P ρ' h' w' B ∧ Step ρ h w ρ' h' w' ∧ Env ρ' h'.nx.num env' a' ∧ env'.length = N ∧ capp W.length (lpR W.length F m) (sel W env') h' = true) (fun m a' w' hI => ?_) (m := 100000) ⟨env, h, ρ, E, Step.refl _ _ _, en, hl, hk⟩
   obtain ⟨env', h', ρ', E', s', en', hl', hk'⟩ := hI
   cases m with
   | zero =>
    obtain ⟨_, hf⟩ := capp_clam W.length (fun _ _ => false) _ _ hk'
    cases hf
   | succ m =>
    obtain ⟨env2, g1, g2, g3⟩ := met_sound en' hl' (f := fun env h => den P T M N x ax (jK W.length (lpR W.length F m) W K) env h) hk'
    refine ihx E' g3 g2 g1 fun e env3 h3 ρ3 w3 a3 E3 s3 en3 hl3 hk3 => ?_
    cases e with
    | n => exact ⟨m, Nat.lt_succ_self m, env3, h3, ρ3, E3, s'.trans s3, en3, hl3, hk3⟩
    | x i => exact H (.x i) env3 h3 ρ3 w3 a3 E3 (s'.trans s3) en3 hl3 hk3
    | r => exact H .r env3 h3 ρ3 w3 a3 E3 (s'.trans s3) en3 hl3 hk3
 | rangeFunc f ps x y _ _ => intro ann K env a ρ h w QQ E en hl hk H; cases hk
 | exit id => intro ann K env a ρ h w QQ E en hl hk H; exact wp_exit (H (.x id) env h ρ w a E (Step.refl _ _ _) en hl hk)
 | scope x _ => intro ann K env a ρ h w QQ E en hl hk H; cases hk
 | label l => intro ann K env a ρ h w QQ E en hl hk H; cases hk
 | goto l => intro ann K env a ρ h w QQ E en hl hk H; cases hk
 | ret => intro ann K env a ρ h w QQ E en hl hk H; exact wp_ret (H .r env h ρ w a E (Step.refl _ _ _) en hl hk)
 | refuse why => intro ann K env a ρ h w QQ E en hl hk H; cases hk
end
end Go.Proofs.YtpchmdddkpocgaaGreatDoor
