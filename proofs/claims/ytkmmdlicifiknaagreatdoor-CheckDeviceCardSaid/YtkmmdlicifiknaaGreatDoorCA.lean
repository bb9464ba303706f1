/- Abstract values for the kit's machine: values that carry the contents of frozen slices, objects under ghost names, and the relation to concrete values. No program of its own. Joined texts, each with what its own name promises; no condition beyond those stated. -/
import Derived.WalkKit
import Derived.Maps.AppendAt
set_option maxHeartbeats 0
set_option maxRecDepth 100000
set_option linter.unusedVariables false
set_option linter.unusedSimpArgs false
namespace Go.Abs
inductive AV where
 | any
 | int (k:IntKind) (n:Int)
 | bool (b:Bool)
 | str (s:List UInt8)
 | nilp|nils|nilm|nilf|nili
 | fp (cs:List AV)
 | ptr (id off:Nat)
 | pe (id i off:Nat)
 | sl (k:Nat) (es:List AV)
 | own (id lo n:Nat)
 | mp (id:Nat)
 | agg (cs:List AV)
 | tup (vs:List AV)
 | clo (fn:Fn) (fst cap:List AV)
 | ifc (t:TypeId) (v:AV)
 | gp (k:IntKind) (zs:List Int)
inductive AO where
 | cells (cs:List AV) (e:TypeId)
 | arr (es:List AV) (e:TypeId)
 | map (es:List (AV × AV))
 | itr (s:List UInt8) (p:Nat)
inductive MS where
 | dead|nil|blk (b:Nat)
abbrev Mu:=List MS
abbrev Hp:=List (Option AO)
structure Cx where
 sz:TypeId->Nat
 X:Nat->Prop
def Fz(cx:Cx)(m:Mu)(w:World)(A:Option Addr)(us:List Value):Prop :=
 us≠[]->∃a,A=some a/\a.block<w.heap.size/\.blk a.block ∉ m/\¬ cx.X a.block/\∀(j:Nat) (u:Value),us[j]?=some u->w.cell? (a.add j)=some u
def Own(sz:Cx)(m:Mu)(w:World)(A:Option Addr)(c id lo:Nat):Prop :=
 id<m.length/\(m[id]?=some .nil->A=none/\c=0) /\
  ∀b,m[id]?=some (.blk b)->∃e k,w.shape? b=some (e,k)/\(lo+c)*sz.sz e=k/\(0<c\/lo=0->A=some ⟨b,lo*sz.sz e,none⟩)
def b8v(sz:Cx)(m:Mu)(w:World)(a:Addr)(id i off:Nat):Prop :=
 id<m.length/\∀b,m[id]?=some (.blk b)->∃e k,w.shape? b=some (e,k)/\a=⟨b,i*sz.sz e+off,none⟩
def flat(vs:List Value):List Value:=vs.flatMap (·.cells.toList)
mutual
def Rel(sz:Cx)(m:Mu)(w:World):AV->Value->Prop
 | .any,_=>True
 | .int k n,v=>v=.int k n
 | .bool b,v=>v=.bool b
 | .str s,v=>v=.string ⟨s.toArray⟩
 | .nilp,v=>v=.pointer none
 | .nils,v=>v=.slice none 0 0
 | .nilm,v=>v=.map none
 | .nilf,v=>v=.nilFunc
 | .nili,v=>v=.nilIface
 | .fp cs,v=>∃(a:Addr) (us:List Value),v=.pointer (some a)/\RelL sz m w cs us/\Fz sz m w (some a) us
 | .ptr id off,v=>∃a:Addr,v=.pointer (some a)/\id<m.length/\∀b,m[id]?=some (.blk b)->a=⟨b,off,none⟩
 | .pe id i off,v=>∃a:Addr,v=.pointer (some a)/\b8v sz m w a id i off
 | .sl k es,v=>∃(A:Option Addr) (c:Nat) (vs:List Value),v=.slice A es.length c/\es.length<=c/\c<=maxLen/\RelL sz m w es vs/\(∀u∈vs,u.cells.size=k)/\Fz sz m w A (flat vs)
 | .own id lo n,v=>∃(A:Option Addr) (c:Nat),v=.slice A n c/\n<=c/\c<=maxLen/\Own sz m w A c id lo
 | .mp id,v=>∃r:Nat,v=.map (some r)/\id<m.length/\∀b,m[id]?=some (.blk b)->r=b
 | .agg cs,v=>∃us:List Value,v=.agg us.toArray/\RelL sz m w cs us
 | .tup cs,v=>∃us:List Value,v=.tuple us.toArray/\RelL sz m w cs us
 | .clo fn f c,v=>∃us vs:List Value,v=.func fn us.toArray vs.toArray/\RelL sz m w f us/\RelL sz m w c vs
 | .ifc t x,v=>∃u:Value,v=.iface t u/\Rel sz m w x u
 | .gp k zs,v=>∃(b:Nat) (e:TypeId),v=.pointer (some ⟨b,0,none⟩)/\w.shape? b=some (e,zs.length)/\Fz sz m w (some ⟨b,0,none⟩) (zs.map fun n=>Value.int k n)
def RelL(sz:Cx)(m:Mu)(w:World):List AV->List Value->Prop
 | [],us=>us=[]
 | x::xs,us=>∃(u:Value) (r:List Value),us=u::r/\Rel sz m w x u/\RelL sz m w xs r
end
structure Ext(m:Mu)(w:World)(m':Mu)(w':World):Prop where
 os:w'.os=w.os
 tape:w'.tape=w.tape
 output:w'.output=w.output
 size:w.heap.size<=w'.heap.size
 keep:∀b,b<w.heap.size->MS.blk b ∉ m->w'.heap[b]?=w.heap[b]?
 fresh:∀b,b<w.heap.size->MS.blk b∈m'->MS.blk b∈m
 len:m.length<=m'.length
 ids:∀(id:Nat) (x:MS),id<m.length->x≠.dead->m'[id]?=some x->m[id]?=some x
 shape:∀(b:Nat) (s:TypeId × Nat),w.shape? b=some s->w'.shape? b=some s
theorem Ext.refl(m:Mu)(w:World):Ext m w m w :=
 ⟨rfl,rfl,rfl,Nat.le_refl _,fun _ _ _=>rfl,fun _ _ h=>h,Nat.le_refl _,fun _ _ _ _ h=>h,fun _ _ h=>h⟩
theorem Ext.trans{m:Mu}{w:World}{m1:Mu}{w1:World}{m2:Mu}{w2:World}(h:Ext m w m1 w1)(k:Ext m1 w1 m2 w2):Ext m w m2 w2 where
 os:=k.os.trans h.os
 tape:=k.tape.trans h.tape
 output:=k.output.trans h.output
 size:=Nat.le_trans h.size k.size
 keep:=fun b hb hn=>(k.keep b (Nat.lt_of_lt_of_le hb h.size) (fun hm=>hn (h.fresh b hb hm))).trans (h.keep b hb hn)
 fresh:=fun b hb hm=>h.fresh b hb (k.fresh b (Nat.lt_of_lt_of_le hb h.size) hm)
 len:=Nat.le_trans h.len k.len
 ids:=fun id b hid hx hb=>h.ids id b hid hx (k.ids id b (Nat.lt_of_lt_of_le hid h.len) hx hb)
 shape:=fun b s hs=>k.shape b s (h.shape b s hs)
section
variable{sz:Cx}{m m':Mu}{w w':World}
theorem Fz.ext(e:Ext m w m' w'){A:Option Addr}{us:List Value}(h:Fz sz m w A us):Fz sz m' w' A us:=fun hne=>by
 obtain ⟨a,ha,hb,hn,hx,hc⟩:=h hne
 refine ⟨a,ha,Nat.lt_of_lt_of_le hb e.size,fun hm=>hn (e.fresh _ hb hm),hx,fun j u hu=>?_⟩
 have hblk:(a.add j).block=a.block:=by unfold Addr.add;split<;>rfl
 rw [World.cell?_of_block (w:=w) (by rw [hblk];exact e.keep _ hb hn)]
 exact hc j u hu
theorem Own.ext(e:Ext m w m' w'){A:Option Addr}{c id lo:Nat}(h:Own sz m w A c id lo):Own sz m' w' A c id lo :=
 ⟨Nat.lt_of_lt_of_le h.1 e.len,fun hb=>h.2.1 (e.ids _ _ h.1 (by simp) hb),fun b hb=>by
  obtain ⟨t,k,h2,h3⟩:=h.2.2 b (e.ids _ _ h.1 (by simp) hb)
  exact ⟨t,k,e.shape _ _ h2,h3⟩⟩
theorem b8v.ext(e:Ext m w m' w'){a:Addr}{id i off:Nat}(h:b8v sz m w a id i off):b8v sz m' w' a id i off :=
 ⟨Nat.lt_of_lt_of_le h.1 e.len,fun b hb=>by
  obtain ⟨t,k,h2,h3⟩:=h.2 b (e.ids _ _ h.1 (by simp) hb)
  exact ⟨t,k,e.shape _ _ h2,h3⟩⟩
mutual
theorem Rel.ext(e:Ext m w m' w'):∀(x:AV) {v:Value},Rel sz m w x v->Rel sz m' w' x v
 | .any,_,_=>by simp [Rel]
 | .int k n,_,h|.bool b,_,h|.str s,_,h=>by simpa [Rel] using h
 | .nilp,_,h|.nils,_,h|.nilm,_,h|.nilf,_,h|.nili,_,h=>by simpa [Rel] using h
 | .fp cs,_,h=>by
  simp only [Rel] at h ⊢
  obtain ⟨a,us,h1,h2,h3⟩:=h
  exact ⟨a,us,h1,RelL.ext e cs h2,h3.ext e⟩
 | .ptr id off,_,h=>by
  simp only [Rel] at h ⊢
  obtain ⟨a,h1,h2,h3⟩:=h
  exact ⟨a,h1,Nat.lt_of_lt_of_le h2 e.len,fun b hb=>h3 b (e.ids _ _ h2 (by simp) hb)⟩
 | .pe id i off,_,h=>by
  simp only [Rel] at h ⊢
  obtain ⟨a,h1,h2⟩:=h
  exact ⟨a,h1,h2.ext e⟩
 | .sl k es,_,h=>by
  simp only [Rel] at h ⊢
  obtain ⟨A,c,vs,h1,h2,h3,h4,h5,h6⟩:=h
  exact ⟨A,c,vs,h1,h2,h3,RelL.ext e es h4,h5,h6.ext e⟩
 | .own id lo n,_,h=>by
  simp only [Rel] at h ⊢
  obtain ⟨a,c,h1,h2,h3,h4⟩:=h
  exact ⟨a,c,h1,h2,h3,h4.ext e⟩
 | .mp id,_,h=>by
  simp only [Rel] at h ⊢
  obtain ⟨r,h1,h2,h3⟩:=h
  exact ⟨r,h1,Nat.lt_of_lt_of_le h2 e.len,fun b hb=>h3 b (e.ids _ _ h2 (by simp) hb)⟩
 | .agg cs,_,h=>by
  simp only [Rel] at h ⊢
  obtain ⟨us,h1,h2⟩:=h
  exact ⟨us,h1,RelL.ext e cs h2⟩
 | .tup cs,_,h=>by
  simp only [Rel] at h ⊢
  obtain ⟨us,h1,h2⟩:=h
  exact ⟨us,h1,RelL.ext e cs h2⟩
 | .clo fn f c,_,h=>by
  simp only [Rel] at h ⊢
  obtain ⟨us,vs,h1,h2,h3⟩:=h
  exact ⟨us,vs,h1,RelL.ext e f h2,RelL.ext e c h3⟩
 | .ifc t x,_,h=>by
  simp only [Rel] at h ⊢
  obtain ⟨u,h1,h2⟩:=h
  exact ⟨u,h1,Rel.ext e x h2⟩
 | .gp k zs,_,h=>by
  simp only [Rel] at h ⊢
  obtain ⟨b,t,h1,h2,h3⟩:=h
  exact ⟨b,t,h1,e.shape _ _ h2,h3.ext e⟩
theorem RelL.ext(e:Ext m w m' w'):∀(xs:List AV) {vs:List Value},RelL sz m w xs vs->RelL sz m' w' xs vs
 | [],_,h=>by simpa [RelL] using h
 | x::xs,_,h=>by
  simp only [RelL] at h ⊢
  obtain ⟨u,r,h1,h2,h3⟩:=h
  exact ⟨u,r,h1,Rel.ext e x h2,RelL.ext e xs h3⟩
end
theorem a1l{vs:List Value}:RelL sz m w [] vs ↔ vs=[]:=by simp [RelL]
theorem a0o{x:AV}{xs:List AV}{vs:List Value}:RelL sz m w (x::xs) vs ↔ ∃u r,vs=u::r/\Rel sz m w x u/\RelL sz m w xs r:=by simp [RelL]
theorem RelL.cons{x:AV}{xs:List AV}{u:Value}{r:List Value}(h:Rel sz m w x u)(k:RelL sz m w xs r):RelL sz m w (x::xs) (u::r):=by
 rw [a0o];exact ⟨u,r,rfl,h,k⟩
theorem RelL.length:∀{xs:List AV} {vs:List Value},RelL sz m w xs vs->vs.length=xs.length
 | [],_,h=>by rw [a1l] at h;simp [h]
 | _::xs,_,h=>by
  rw [a0o] at h
  obtain ⟨u,r,rfl,_,h⟩:=h
  simp [RelL.length h]
theorem RelL.append:∀{xs ys:List AV} {us vs:List Value},RelL sz m w xs us->RelL sz m w ys vs->RelL sz m w (xs++ys) (us++vs)
 | [],_,_,_,h,k=>by rw [a1l] at h;subst h;simpa using k
 | _::xs,_,_,_,h,k=>by
  rw [a0o] at h
  obtain ⟨u,r,rfl,h1,h2⟩:=h
  exact RelL.cons h1 (RelL.append h2 k)
theorem RelL.drop:∀(n:Nat) {xs:List AV} {us:List Value},RelL sz m w xs us->RelL sz m w (xs.drop n) (us.drop n)
 | 0,_,_,h=>by simpa using h
 | n+1,[],_,h=>by rw [a1l] at h;subst h;simp [RelL]
 | n+1,_::xs,_,h=>by
  rw [a0o] at h
  obtain ⟨u,r,rfl,_,h2⟩:=h
  simpa using RelL.drop n h2
theorem RelL.take:∀(n:Nat) {xs:List AV} {us:List Value},RelL sz m w xs us->RelL sz m w (xs.take n) (us.take n)
 | 0,_,_,_=>by simp [RelL]
 | n+1,[],_,h=>by rw [a1l] at h;subst h;simp [RelL]
 | n+1,_::xs,_,h=>by
  rw [a0o] at h
  obtain ⟨u,r,rfl,h1,h2⟩:=h
  simpa using RelL.cons h1 (RelL.take n h2)
theorem RelL.get:∀{xs:List AV} {us:List Value} (n:Nat) {x:AV},RelL sz m w xs us->xs[n]?=some x->∃u,us[n]?=some u/\Rel sz m w x u
 | [],_,_,_,_,hx=>by simp at hx
 | y::xs,_,n,x,h,hx=>by
  rw [a0o] at h
  obtain ⟨u,r,rfl,h1,h2⟩:=h
  cases n with
  | zero=>simp at hx;subst hx;exact ⟨u,by simp,h1⟩
  | succ n=>simp at hx;obtain ⟨u',h3,h4⟩:=RelL.get n h2 hx;exact ⟨u',by simpa using h3,h4⟩
theorem RelL.set:∀{xs:List AV} {us:List Value} (n:Nat) {x:AV} {u:Value},RelL sz m w xs us->Rel sz m w x u->RelL sz m w (xs.set n x) (us.set n u)
 | [],_,_,_,_,h,_=>by rw [a1l] at h;subst h;simp [RelL]
 | y::xs,_,n,x,_,h,hx=>by
  rw [a0o] at h
  obtain ⟨u',r,rfl,h1,h2⟩:=h
  cases n with
  | zero=>simpa using RelL.cons hx h2
  | succ n=>simpa using RelL.cons h1 (RelL.set n h2 hx)
def b5d:Value->AV
 | .int k n=>.int k n
 | .bool b=>.bool b
 | .string s=>.str s.data.toList
 | .pointer none=>.nilp
 | .slice none 0 0=>.nils
 | .map none=>.nilm
 | .nilFunc=>.nilf
 | .nilIface=>.nili
 | _=>.any
def ofV:Value->AV
 | .agg cs=>.agg (cs.toList.map b5d)
 | .tuple ⟨[]⟩=>.tup []
 | v=>b5d v
theorem b3I(v:Value):Rel sz m w (b5d v) v:=by
 unfold b5d
 split<;>simp [Rel]
theorem a3x:∀vs:List Value,RelL sz m w (vs.map b5d) vs
 | []=>by simp [RelL]
 | v::vs=>RelL.cons (b3I v) (a3x vs)
theorem b7m(v:Value):Rel sz m w (ofV v) v:=by
 unfold ofV
 split
 ·simp only [Rel];exact ⟨_,by simp,a3x _⟩
 ·simp [Rel,RelL]
 ·exact b3I _
end
mutual
def a0d(n:Nat):AV->Prop
 | .fp cs=>a0e n cs
 | .ptr id _=>id<n
 | .pe id _ _=>id<n
 | .sl _ es=>a0e n es
 | .own id _ _=>id<n
 | .mp id=>id<n
 | .agg cs=>a0e n cs
 | .tup cs=>a0e n cs
 | .clo _ f c=>a0e n f/\a0e n c
 | .ifc _ x=>a0d n x
 | _=>True
def a0e(n:Nat):List AV->Prop
 | []=>True
 | x::xs=>a0d n x/\a0e n xs
end
/-! ### The heap -/
def OB(sz:Cx)(m:Mu)(w:World):AO->MS->Prop
 | .cells cs e,.blk b=>∃us:Array Value,w.heap[b]?=some (.cells us e (0,0))/\RelL sz m w cs us.toList
 | .arr es _,.nil=>es=[]
 | .arr es e,.blk b=>∃(us:Array Value) (vs:List Value),w.heap[b]?=some (.cells us e (0,0))/\RelL sz m w es vs/\(∀u∈vs,u.cells.size=sz.sz e)/\us.toList.take (flat vs).length=flat vs
 | .map es,.blk b=>∃(us:Array MapEntry) (clock:Nat),w.heap[b]?=some (.map us clock)/\(∀e∈us,e.born<clock)/\(us.toList.map (·.born)).Nodup /\
   RelL sz m w (es.map (·.1)) (us.toList.map (·.key))/\RelL sz m w (es.map (·.2)) (us.toList.map (·.val))
 | .itr s p,.blk b=>w.heap[b]?=some (.stringIter ⟨s.toArray⟩ p)
 | _,_=>False
structure Sim(sz:Cx)(m:Mu)(w:World)(H:Hp):Prop where
 len:m.length=H.length
 live:∀(id:Nat) (o:AO),H[id]?=some (some o)->∃x,m[id]?=some x/\OB sz m w o x
 dead:∀id:Nat,H[id]?=some none->m[id]?=some .dead
 inj:∀i j b:Nat,m[i]?=some (.blk b)->m[j]?=some (.blk b)->i=j
 xlt:∀b,sz.X b->b<w.heap.size
 disj:∀b,.blk b∈m->¬ sz.X b
theorem OB.lt{sz:Cx}{m:Mu}{w:World}{o:AO}{b:Nat}(h:OB sz m w o (.blk b)):b<w.heap.size:=by
 cases o with
 | cells cs e =>
  obtain ⟨us,h,_⟩:=h
  exact (Array.getElem?_eq_some_iff.1 h).1
 | arr es e =>
  obtain ⟨us,vs,h,_⟩:=h
  exact (Array.getElem?_eq_some_iff.1 h).1
 | map es =>
  obtain ⟨us,c,h,_⟩:=h
  exact (Array.getElem?_eq_some_iff.1 h).1
 | itr s p =>
  have h1:w.heap[b]?=some (.stringIter ⟨s.toArray⟩ p):=h
  exact (Array.getElem?_eq_some_iff.1 h1).1
theorem Sim.lt{sz:Cx}{m:Mu}{w:World}{H:Hp}(h:Sim sz m w H){b:Nat}(hb:MS.blk b∈m):b<w.heap.size:=by
 obtain ⟨id,hid,he⟩:=List.getElem_of_mem hb
 have hm:m[id]?=some (.blk b):=by rw [List.getElem?_eq_getElem hid,he]
 have hH:id<H.length:=h.len ▸ hid
 cases ho:H[id]? with
 | none=>rw [List.getElem?_eq_getElem hH] at ho;cases ho
 | some o =>
  cases o with
  | none=>rw [h.dead id ho] at hm;cases hm
  | some o =>
   obtain ⟨b',h1,h2⟩:=h.live id o ho
   rw [h1] at hm;cases hm
   exact h2.lt
theorem OB.ext{sz:Cx}{m m':Mu}{w w':World}(e:Ext m w m' w'){o:AO}{x:MS}(h:OB sz m w o x)(hb:∀b,x=.blk b->w'.heap[b]?=w.heap[b]?):OB sz m' w' o x:=by
 cases x with
 | dead=>cases o<;>exact h.elim
 | nil=>cases o<;>first|exact h.elim|exact h
 | blk b =>
  have hb:=hb b rfl
  cases o with
  | cells cs t =>
   obtain ⟨us,h1,h2⟩:=h
   exact ⟨us,hb.trans h1,h2.ext e⟩
  | arr es t =>
   obtain ⟨us,vs,h1,h2,h3,h4⟩:=h
   exact ⟨us,vs,hb.trans h1,h2.ext e,h3,h4⟩
  | map es =>
   obtain ⟨us,c,h1,h2,h3,h4,h5⟩:=h
   exact ⟨us,c,hb.trans h1,h2,h3,h4.ext e,h5.ext e⟩
  | itr s p=>exact hb.trans h
def a0Z:AV->List AV
 | .agg cs=>cs
 | v=>[v]
def known:AV->Bool
 | .any=>false
 | _=>true
theorem a2z{sz:Cx}{m:Mu}{w:World}{x:AV}{v:Value}(h:Rel sz m w x v)(hk:known x=true):RelL sz m w (a0Z x) v.cells.toList:=by
 cases x with
 | any=>cases hk
 | agg cs =>
  simp only [Rel] at h
  obtain ⟨us,rfl,h⟩:=h
  simpa [a0Z,Value.cells] using h
 | _ =>
  have h':=h
  simp only [Rel] at h
  have hc:v.cells=#[v]:=by
   first|(subst h;rfl)|(obtain ⟨_,rfl,_⟩:=h;rfl)|(obtain ⟨_,_,rfl,_⟩:=h;rfl)|(obtain ⟨_,_,_,rfl,_⟩:=h;rfl)
  rw [hc]
  exact RelL.cons h' (by simp [RelL])
end Go.Abs
namespace Go.Abs
inductive TK where
 | int (k:IntKind)|bool|str|sl (e:TypeId)|struct (fs:List (Nat × TypeId))|arr (n:Nat) (e:TypeId)|ptr (e:TypeId)|map (k e:TypeId)|fn|ifc|other
structure Ty where
 sz:Nat
 bt:Nat
 k:TK
 z:Option (List AV)
 eq:Bool
def b5g:TypeDesc->TK
 | .int k=>.int k
 | .bool=>.bool
 | .string=>.str
 | .slice e=>.sl e
 | .struct fs=>.struct (fs.toList.map fun f=>(f.offset,f.type))
 | .array n e=>.arr n e
 | .pointer e=>.ptr e
 | .map k e=>.map k e
 | .func ..=>.fn
 | .interface _=>.ifc
 | _=>.other
def TK.agg:TK->Bool
 | .struct _|.arr _ _=>true
 | _=>false
def c5s(P:Program)(t:TypeId):TypeDesc->Bool
 | .struct fs=>!(fs.any fun f=>f.name == "_")&&!P.stoodInHeld t&&!P.eqGuardType P.depth t
 | _=>false
structure Env where
 P:Program
 ti:TypeId->Ty
 n:Nat
 G:Nat->AV
 X:Nat->Prop
def c5z(P:Program)(t:TypeId):Option Ty :=
 match P.info? t,P.underlying t with
 | some i,some d=>some { sz:=i.size,bt:=i.bytes,k:=b5g d,z:=i.zero.map fun v=>v.cells.toList.map b5d,eq:=c5s P t d }
 | _,_=>none
def Env.Ok(E:Env):Prop:=E.P.follows .mixedOrders=true/\(∀t,t<E.n->c5z E.P t=some (E.ti t))/\∀g,a0d 0 (E.G g)
def Env.sz(E:Env)(t:TypeId):Nat:=((E.P.info? t).map (·.size)).getD 0
def Env.cx(E:Env):Cx:={ sz:=E.sz,X:=E.X }
abbrev Env.Rel(E:Env)(m:Mu)(w:World)(x:AV)(v:Value):Prop:=Abs.Rel E.cx m w x v
abbrev Env.RelL(E:Env)(m:Mu)(w:World)(x:List AV)(v:List Value):Prop:=Abs.RelL E.cx m w x v
abbrev Env.Sim(E:Env)(m:Mu)(w:World)(H:Hp):Prop:=Abs.Sim E.cx m w H
structure St where
 sl:List (Nat × AV)
 hp:Hp
def get:List (Nat × AV)->Nat->AV
 | [],_=>.any
 | (j,v)::r,k=>cond (Nat.beq j k) v (get r k)
def ev(E:Env)(sl:List (Nat × AV)):Operand->AV
 | .tmp t=>get sl t
 | .const v=>ofV v
 | .global g=>E.G g
 | .func f=>.clo (.func f) [] []
def put:Option Nat->AV->List (Nat × AV)->List (Nat × AV)
 | some d,v,sl=>(d,v)::sl
 | none,_,sl=>sl
structure a2k(E:Env)(N:Nat)(m:Mu)(w:World)(s:St)(a:Act):Prop where
 ok:E.Ok
 slots:∀k,E.Rel m w (get s.sl k) (a.tmps.getD k undef)
 size:a.tmps.size=N
 defers:a.defers=[]
 sim:E.Sim m w s.hp
 glob:∀g,E.Rel m w (E.G g) (.pointer (some ⟨g,0,none⟩))
def b8C(E:Env)(N:Nat)(m0:Mu)(w0:World)(Q:Exit->St->Prop):Exit->Act->World->Prop :=
 fun e a' w'=>∃m' s',Ext m0 w0 m' w'/\a2k E N m' w' s' a'/\Q e s'
def AWp(E:Env)(N n0:Nat)(c:Code)(Q:Exit->St->Prop)(s:St):Prop :=
 ∀m0 w0,m0.length=n0->∀m w a,Ext m0 w0 m w->a2k E N m w s a->c.wp E.P (b8C E N m0 w0 Q) a w
def Imp(E:Env)(N n0:Nat)(s s':St):Prop :=
 ∀m0 w0,m0.length=n0->∀m w a,Ext m0 w0 m w->a2k E N m w s a->∃m',Ext m0 w0 m' w/\a2k E N m' w s' a
def a5W(K:St->Prop)(Q:Exit->St->Prop):Exit->St->Prop
 | .normal,s=>K s
 | e,s=>Q e s
def a4M(id:Nat)(Q:Exit->St->Prop):Exit->St->Prop
 | .exit i,s=>if i=id then Q .normal s else Q (.exit i) s
 | e,s=>Q e s
section
variable{E:Env}{N n0:Nat}{Q:Exit->St->Prop}{s:St}
theorem a5w{m:Mu}{w:World}{a:Act}(h:a2k E N m w s a)(x:Operand):E.Rel m w (ev E s.sl x) (a.eval x):=by
 cases x with
 | tmp t=>exact h.slots t
 | const v=>exact b7m v
 | global g=>exact h.glob g
 | func f =>
  show Abs.Rel E.cx m w (.clo (.func f) [] []) (.func (.func f) #[] #[])
  simp [Abs.Rel,Abs.RelL]
theorem a2L{c:Code}{Q':Exit->St->Prop}(h:AWp E N n0 c Q s)(k:∀e s,Q e s->Q' e s):AWp E N n0 c Q' s :=
 fun m0 w0 hn m w a he hs=>wp_mono (h m0 w0 hn m w a he hs) fun _ _ _ ⟨m',s',h1,h2,h3⟩=>⟨m',s',h1,h2,k _ _ h3⟩
theorem a0t{c:Code}{s':St}(i:Imp E N n0 s s')(h:AWp E N n0 c Q s'):AWp E N n0 c Q s :=
 fun m0 w0 hn m w a he hs=>let ⟨m',h1,h2⟩:=i m0 w0 hn m w a he hs;h m0 w0 hn m' w a h1 h2
theorem a0u{x y:Code}(h:AWp E N n0 x (a5W (AWp E N n0 y Q) Q) s):AWp E N n0 (.seq x y) Q s:=by
 intro m0 w0 hn m w a he hs
 refine wp_seq (wp_mono (h m0 w0 hn m w a he hs) ?_)
 rintro e a' w' ⟨m',s',h1,h2,h3⟩
 cases e with
 | normal=>exact h3 m0 w0 hn m' w' a' h1 h2
 | _=>exact ⟨m',s',h1,h2,h3⟩
theorem a1t(h:Q .normal s):AWp E N n0 .skip Q s:=fun _ _ _ m _ _ he hs=>wp_skip ⟨m,s,he,hs,h⟩
theorem a0c(h:Q .ret s):AWp E N n0 .ret Q s:=fun _ _ _ m _ _ he hs=>wp_ret ⟨m,s,he,hs,h⟩
theorem b2F{id:Nat}(h:Q (.exit id) s):AWp E N n0 (.exit id) Q s:=fun _ _ _ m _ _ he hs=>wp_exit ⟨m,s,he,hs,h⟩
theorem a3u{id:Nat}{c:Code}(h:AWp E N n0 c (a4M id Q) s):AWp E N n0 (.block id c) Q s:=by
 intro m0 w0 hn m w a he hs
 refine wp_block (wp_mono (h m0 w0 hn m w a he hs) ?_)
 rintro e a' w' ⟨m',s',h1,h2,h3⟩
 cases e with
 | exit i =>
  simp only [a4M] at h3
  simp only [Exit.inBlock]
  split
  ·rename_i hi;rw [if_pos hi] at h3;exact ⟨m',s',h1,h2,h3⟩
  ·rename_i hi;rw [if_neg hi] at h3;exact ⟨m',s',h1,h2,h3⟩
 | _=>exact ⟨m',s',h1,h2,h3⟩
theorem a0I{c:Operand}{x y:Code}{b:Bool}(hc:ev E s.sl c=.bool b)(h1:b=true->AWp E N n0 x Q s)(h2:b=false->AWp E N n0 y Q s) :
  AWp E N n0 (.cond c x y) Q s:=by
 intro m0 w0 hn m w a he hs
 have hr:=a5w hs c
 rw [hc] at hr
 simp only [Env.Rel,Abs.Rel] at hr
 exact wp_cond_split hr (fun h=>h1 h m0 w0 hn m w a he hs) (fun h=>h2 h m0 w0 hn m w a he hs)
theorem a1j{c:Operand}{x y:Code}(hc:ev E s.sl c=.bool true)(h:AWp E N n0 x Q s):AWp E N n0 (.cond c x y) Q s :=
 a0I hc (fun _=>h) (fun h=>by cases h)
theorem a1v{c:Operand}{x y:Code}(hc:ev E s.sl c=.bool false)(h:AWp E N n0 y Q s):AWp E N n0 (.cond c x y) Q s :=
 a0I hc (fun h=>by cases h) (fun _=>h)
theorem a0g{c:Operand}{x y:Code}{p:Prop}[Decidable p](hc:ev E s.sl c=.bool (decide p))(h1:p->AWp E N n0 x Q s)(h2:¬ p->AWp E N n0 y Q s) :
  AWp E N n0 (.cond c x y) Q s :=
 a0I hc (fun h=>h1 (of_decide_eq_true h)) (fun h=>h2 (of_decide_eq_false h))
theorem b8J{ι:Type}(σ:ι->St)(μ:ι->Nat)(i0:ι){c:Code}(h0:Imp E N n0 s (σ i0))
  (round:∀i,AWp E N n0 c (a5W (fun s'=>∃j,μ j < μ i/\Imp E N n0 s' (σ j)) Q) (σ i)):AWp E N n0 (.loop c) Q s:=by
 intro m0 w0 hn m w a he hs
 obtain ⟨m',h1,h2⟩:=h0 m0 w0 hn m w a he hs
 intro b k cs
 have key:∀n i m w a,μ i=n->Ext m0 w0 m w->a2k E N m w (σ i) a ->
   ∃e a' w',b8C E N m0 w0 Q e a' w'/\Arrives E.P (lone (b.at a (.code c::.inLoop c::k)) cs w) b k cs e a' w':=by
  intro n
  induction n using Nat.strongRecOn with
  | _ n ih =>
   intro i m w a hi he hs
   obtain ⟨e,a',w',⟨m',s',h1,h2,h3⟩,harr⟩:=round i m0 w0 hn m w a he hs b (.inLoop c::k) cs
   cases e with
   | normal =>
    obtain ⟨j,hj,hi'⟩:=h3
    obtain ⟨m2,h4,h5⟩:=hi' m0 w0 hn m' w' a' h1 h2
    obtain ⟨e2,a2,w2,hq2,harr2⟩:=ih (μ j) (hi ▸ hj) j m2 w' a' rfl h4 h5
    exact ⟨e2,a2,w2,hq2,.of_steps (Steps.trans harr (.one step_inLoop)) harr2⟩
   | exit id=>exact ⟨_,a',w',⟨m',s',h1,h2,h3⟩,.pass (x:=.inLoop c) rfl (fun _ _=>.inl (by simp)) harr⟩
   | goto l=>exact ⟨_,a',w',⟨m',s',h1,h2,h3⟩,.pass (x:=.inLoop c) rfl (fun _ _=>.inl (by simp)) harr⟩
   | ret=>exact ⟨_,a',w',⟨m',s',h1,h2,h3⟩,.pass (x:=.inLoop c) rfl (fun _ _=>.inl (by simp)) harr⟩
   | panic ch=>exact ⟨_,a',w',⟨m',s',h1,h2,h3⟩,.pass (x:=.inLoop c) rfl (fun _ _=>.inl (by simp)) harr⟩
   | outgrown=>exact ⟨_,a',w',⟨m',s',h1,h2,h3⟩,.pass (x:=.inLoop c) rfl (fun _ _=>.inl (by simp)) harr⟩
 obtain ⟨e,a',w',hq,harr⟩:=key _ i0 m' w a rfl h1 h2
 exact ⟨e,a',w',hq,.of_steps (.one step_loop) harr⟩
theorem a0R{j:Nat}{v:AV}{r:List (Nat × AV)}{k:Nat}:get ((j,v)::r) k=if j=k then v else get r k:=by
 simp only [get]
 cases h:Nat.beq j k with
 | true=>rw [if_pos (Nat.eq_of_beq_eq_true h)];rfl
 | false=>rw [if_neg (Nat.ne_of_beq_eq_false h)];rfl
theorem a9g{d:Option Nat}{v:AV}{sl:List (Nat × AV)}{k:Nat}:get (put d v sl) k=if d=some k then v else get sl k:=by
 cases d with
 | none=>simp [put]
 | some d =>
  simp [put,a0R]
theorem Imp.trans{s1 s2:St}(h:Imp E N n0 s s1)(k:Imp E N n0 s1 s2):Imp E N n0 s s2:=fun m0 w0 hn m w a he hs=>by
 obtain ⟨m1,h1,h2⟩:=h m0 w0 hn m w a he hs
 exact k m0 w0 hn m1 w a h1 h2
/-! ### Regions -/
def a0z(E:Env)(o:Oper)(ρ:Operand->AV)(H:Hp)(K:AV->Hp->Prop):Prop :=
 ∀m w a,E.Ok->(∀x,E.Rel m w (ρ x) (a.eval x))->E.Sim m w H->a.defers=[] ->
  ∀Q,o.wp E.P a w (fun a' w'=>∃v',a'=a.put o.dst v'/\∃m' r H',Ext m w m' w'/\E.Rel m' w' r v'/\E.Sim m' w' H'/\K r H') Q
def b4u(ops:Array Oper)(o:Oper):Option Nat :=
 match o.guard with
 | none=>none
 | some (j,_)=>(ops[j]?).bind (·.dst)
def a0H(ops:Array Oper)(o:Oper)(sl:List (Nat × AV)):Option Bool :=
 match o.guard with
 | none=>some true
 | some (j,want)=>match (ops[j]?).bind (·.dst) with
  | none=>some false
  | some d=>match get sl d with
   | .bool b=>some (b == want)
   | .tup []=>some false
   | _=>none
def a1p(E:Env)(ops:Array Oper):List Oper->(St->Prop)->St->Prop
 | [],K,s=>∃sl',(∀k,get s.sl k=get sl' k)/\K ⟨sl',s.hp⟩
 | o::rest,K,s =>
  match a0H ops o s.sl with
  | some true=>a0z E o (ev E s.sl) s.hp (fun r H'=>a1p E ops rest K ⟨put o.dst r s.sl,H'⟩)
  | some false=>a1p E ops rest K ⟨put o.dst (.tup []) s.sl,s.hp⟩
  | none=>False
def a2l(N:Nat)(ops:List Oper):Bool:=ops.all fun o=>match o.dst with|none=>true|some d=>Nat.blt d N
theorem a2k.put{m:Mu}{w:World}{a:Act}(h:a2k E N m w s a){m':Mu}{w':World}(he:Ext m w m' w'){d:Option Nat}(hd:∀k,d=some k->k<N){r:AV}{v:Value}
  (hr:E.Rel m' w' r v) {H':Hp} (hH:E.Sim m' w' H'):a2k E N m' w' ⟨put d r s.sl,H'⟩ (a.put d v):=by
 refine ⟨h.ok,fun k=>?_,?_,?_,hH,fun g=>(h.glob g).ext he⟩
 ·show Abs.Rel E.cx m' w' (get (Abs.put d r s.sl) k) _
  rw [a9g]
  by_cases hk:d=some k
  ·subst hk
   rw [if_pos rfl]
   have hlt:k<a.tmps.size:=by rw [h.size];exact hd k rfl
   have:(a.put (some k) v).tmps.getD k undef=v:=by simp [Act.put,hlt]
   rw [this];exact hr
  rw [if_neg hk]
  have:(a.put d v).tmps.getD k undef=a.tmps.getD k undef:=by
   cases d with
   | none=>rfl
   | some j =>
    have hne:j≠k:=fun e=>hk (by rw [e])
    simp [Act.put,Array.getElem?_setIfInBounds_ne hne]
  rw [this];exact (h.slots k).ext he
 ·cases d<;>simp [Act.put,h.size]
 ·cases d<;>simp [Act.put,h.defers]
theorem a3B{ops:Array Oper}{o:Oper}{m:Mu}{w:World}{a:Act}{b:Bool}(h:a2k E N m w s a)(hw:a0H ops o s.sl=some b):Region.wanted o (yielded ops a.tmps)=b:=by
 unfold a0H at hw
 unfold Region.wanted
 cases hg:o.guard with
 | none=>simp [hg] at hw;simp [hw]
 | some g =>
  obtain ⟨j,want⟩:=g
  simp only [hg] at hw ⊢
  cases hd:(ops[j]?).bind (·.dst) with
  | none=>simp [hd] at hw;subst hw;simp [yielded,hd]
  | some d =>
   simp only [hd] at hw
   have hs:=h.slots d
   cases hv:get s.sl d with
   | bool c =>
    rw [hv] at hw hs
    simp only [Env.Rel,Abs.Rel] at hs
    simp only [Option.some.injEq] at hw
    subst hw
    have:yielded ops a.tmps j=some c:=by
     unfold yielded
     rw [hd]
     have h2:a.tmps[d]?=some (.bool c):=by
      rcases Nat.lt_or_ge d a.tmps.size with hlt|hge
      ·simpa [Array.getElem?_eq_getElem hlt,hlt] using hs
      have hn:a.tmps[d]?=none:=Array.getElem?_eq_none hge
      rw [Array.getD_eq_getD_getElem?,hn] at hs
      simp [undef] at hs
     simp [h2]
    rw [this]
    cases c<;>cases want<;>rfl
   | tup l =>
    cases l with
    | nil =>
     rw [hv] at hw hs
     simp only [Env.Rel,Abs.Rel,Abs.RelL] at hs
     simp only [Option.some.injEq] at hw
     subst hw
     obtain ⟨us,hu,rfl⟩:=hs
     have:yielded ops a.tmps j=none:=by
      unfold yielded
      rw [hd]
      rcases Nat.lt_or_ge d a.tmps.size with hlt|hge
      ·have h2:a.tmps[d]?=some (.tuple #[]):=by simpa [Array.getElem?_eq_getElem hlt,hlt] using hu
       simp [h2]
      ·simp [Array.getElem?_eq_none hge]
     rw [this]
     cases want<;>rfl
    | cons x y=>rw [hv] at hw;simp at hw
   | _=>rw [hv] at hw;simp at hw
theorem a3y{m:Mu}{w:World}:E.Rel m w (.tup []) undef:=by
 show Abs.Rel E.cx m w (.tup []) undef
 simp [Abs.Rel,Abs.RelL,undef]
theorem a6c{ops:Array Oper}:∀(l:List Oper) (K:St->Prop) (s:St) (m0:Mu) (w0:World) (m:Mu) (w:World) (a:Act),a2l N l=true ->
  Ext m0 w0 m w->a2k E N m w s a->a1p E ops l K s->(∀m' w' s' a',Ext m0 w0 m' w'->a2k E N m' w' s' a'->K s'->Q .normal s') ->
  wpList E.P ops (b8C E N m0 w0 Q) l a w
 | [],K,s,m0,w0,m,w,a,_,he,hs,h,hQ=>by
  obtain ⟨sl',h1,h2⟩:=h
  have hs':a2k E N m w ⟨sl',s.hp⟩ a:=⟨hs.ok,fun k=>(h1 k) ▸ hs.slots k,hs.size,hs.defers,hs.sim,hs.glob⟩
  exact ⟨m,_,he,hs',hQ m w _ a he hs' h2⟩
 | o::rest,K,s,m0,w0,m,w,a,hd,he,hs,h,hQ=>by
  simp only [a2l,List.all_cons,Bool.and_eq_true] at hd
  have hd1:∀k,o.dst=some k->k<N:=fun k hk=>by
   have:=hd.1;rw [hk] at this;simpa using this
  simp only [a1p] at h
  unfold wpList
  cases hw:a0H ops o s.sl with
  | none=>rw [hw] at h;exact h.elim
  | some b =>
   rw [hw] at h
   rw [a3B hs hw]
   cases b with
   | true =>
    simp only [if_true]
    left
    refine Oper.wp_mono ?_ (h m w a hs.ok (a5w hs) hs.sim hs.defers _)
    rintro a' w' ⟨v',rfl,m',r,H',h1,h2,h3,h4⟩
    exact a6c rest K _ m0 w0 m' w' _ hd.2 (he.trans h1) (hs.put h1 hd1 h2 h3) h4 hQ
   | false =>
    simp only [Bool.false_eq_true,if_false]
    exact a6c rest K _ m0 w0 m w _ hd.2 he (hs.put (Ext.refl m w) hd1 a3y hs.sim) h hQ
theorem a0m{id:Nat}{l:List Oper}(hd:a2l N l=true)(h:a1p E l.toArray l (Q .normal) s):AWp E N n0 (.region id l.toArray false) Q s :=
 fun m0 w0 _ m w a he hs=>wp_region_lit (a6c l _ s m0 w0 m w a hd he hs h (fun _ _ _ _ _ _ h=>h))
theorem a4y{ops:Array Oper}{K:St->Prop}(h:K s):a1p E ops [] K s:=⟨s.sl,fun _=>rfl,h⟩
theorem a1U{ops:Array Oper}{K:St->Prop}{o:Oper}{rest:List Oper}(hw:a0H ops o s.sl=some true)
  (h:a0z E o (ev E s.sl) s.hp (fun r H'=>a1p E ops rest K ⟨put o.dst r s.sl,H'⟩)):a1p E ops (o::rest) K s:=by
 simp only [a1p,hw];exact h
theorem a5n{ops:Array Oper}{K:St->Prop}{o:Oper}{rest:List Oper}(hw:a0H ops o s.sl=some false)
  (h:a1p E ops rest K ⟨put o.dst (.tup []) s.sl,s.hp⟩):a1p E ops (o::rest) K s:=by
 simp only [a1p,hw];exact h
theorem a3G{ops:Array Oper}{K:St->Prop}{l:List Oper}{sl':List (Nat × AV)}(hs:∀k,get s.sl k=get sl' k)(h:a1p E ops l K ⟨sl',s.hp⟩) :
  a1p E ops l K s:=by
 induction l generalizing s sl' with
 | nil =>
  obtain ⟨sl2,h1,h2⟩:=h
  exact ⟨sl2,fun k=>(hs k).trans (h1 k),h2⟩
 | cons o rest ih =>
  have hev:ev E s.sl=ev E sl':=by funext x;cases x<;>simp [ev,hs]
  have hwa:a0H ops o s.sl=a0H ops o sl':=by unfold a0H;split<;>simp [hs]
  simp only [a1p,hwa] at h ⊢
  have hp:∀r k,get (put o.dst r s.sl) k=get (put o.dst r sl') k:=fun r k=>by simp [a9g,hs]
  split
  ·rename_i hw
   rw [hw] at h
   simp only at h
   rw [hev]
   intro m w a hok hx hsim hdf Q'
   refine Oper.wp_mono ?_ (h m w a hok hx hsim hdf Q')
   rintro a' w' ⟨v',h0,m',r,H',h1,h2,h3,h4⟩
   exact ⟨v',h0,m',r,H',h1,h2,h3,ih (s:=⟨put o.dst r s.sl,H'⟩) (hp r) h4⟩
  ·rename_i hw
   rw [hw] at h
   exact ih (s:=⟨put o.dst _ s.sl,s.hp⟩) (hp _) h
  ·rename_i hw;rw [hw] at h;exact h
end
end Go.Abs
namespace Go.Abs
section
variable{E:Env}{N n0:Nat}{Q:Exit->St->Prop}{s:St}{ρ:Operand->AV}{H:Hp}{K:AV->Hp->Prop}
variable{d:Option Tmp}{ty:TypeId}{pos:String}{after:Array Edge}{g:Option (Nat × Bool)}
theorem a0G{o:Oper}(r:AV) (hrun:∀(m:Mu) (w:World) (a:Act),E.Ok->(∀x,E.Rel m w (ρ x) (a.eval x))->E.Sim m w H ->
  ∃v,(execOp a.eval o).run E.P w=.ok (.value v) w/\E.Rel m w r v) (h:K r H):a0z E o ρ H K:=by
 intro m w a hok hx hsim _ Q
 obtain ⟨v,h1,h2⟩:=hrun m w a hok hx hsim
 unfold Oper.wp
 rw [h1]
 exact ⟨v,rfl,m,r,H,Ext.refl m w,h2,hsim,h⟩
theorem a1L{o:Oper} (hrun:∀(m:Mu) (w:World) (a:Act),E.Ok->(∀x,E.Rel m w (ρ x) (a.eval x))->E.Sim m w H ->
  ∃v w' m' r H',(execOp a.eval o).run E.P w=.ok (.value v) w'/\Ext m w m' w'/\E.Rel m' w' r v/\E.Sim m' w' H'/\K r H'):a0z E o ρ H K:=by
 intro m w a hok hx hsim _ Q
 obtain ⟨v,w',m',r,H',h1,h2,h3,h4,h5⟩:=hrun m w a hok hx hsim
 unfold Oper.wp
 rw [h1]
 exact ⟨v,rfl,m',r,H',h2,h3,h4,h5⟩
theorem step_skip{o:Oper} (hrun:∀(m:Mu) (w:World) (a:Act),E.Ok->(∀x,E.Rel m w (ρ x) (a.eval x))->E.Sim m w H ->
  ∃w' m' H',(execOp a.eval o).run E.P w=.ok .skip w'/\Ext m w m' w'/\E.Sim m' w' H'/\K (.tup []) H'):a0z E o ρ H K:=by
 intro m w a hok hx hsim _ Q
 obtain ⟨w',m',H',h1,h2,h3,h4⟩:=hrun m w a hok hx hsim
 unfold Oper.wp
 rw [h1]
 exact ⟨undef,rfl,m',.tup [],H',h2,a3y,h3,h4⟩
theorem a9M{x:Operand}(h:K (ρ x) H):a0z E ⟨d,.move x,ty,pos,after,g⟩ ρ H K :=
 a0G (ρ x) (fun _ _ a _ hx _=>⟨a.eval x,rfl,hx x⟩) h
theorem a5T{x:Operand}(h:K (ρ x) H):a0z E ⟨d,.assign x,ty,pos,after,g⟩ ρ H K :=
 a0G (ρ x) (fun _ _ a _ hx _=>⟨a.eval x,rfl,hx x⟩) h
theorem a5M{m:Mu}{w:World}{b:Bool}{v:Value}(h:E.Rel m w (.bool b) v):v=.bool b:=by simpa [Env.Rel,Rel] using h
theorem a1m{m:Mu}{w:World}{k:IntKind}{n:Int}{v:Value}(h:E.Rel m w (.int k n) v):v=.int k n:=by simpa [Env.Rel,Rel] using h
theorem a6u{m:Mu}{w:World}{s:List UInt8}{v:Value}(h:E.Rel m w (.str s) v):v=.string ⟨s.toArray⟩:=by simpa [Env.Rel,Rel] using h
theorem b1H{m:Mu}{w:World}{b:Bool}:E.Rel m w (.bool b) (.bool b):=by simp [Env.Rel,Rel]
theorem a3v{m:Mu}{w:World}{k:IntKind}{n:Int}:E.Rel m w (.int k n) (.int k n):=by simp [Env.Rel,Rel]
def c2s:AV->AV->AV->Option AV
 | .bool true,x,_=>some x
 | .bool false,_,y=>some y
 | _,_,_=>none
theorem a9N{c x y:Operand}{r:AV}(hp:c2s (ρ c) (ρ x) (ρ y)=some r)(h:K r H):a0z E ⟨d,.pick c x y,ty,pos,after,g⟩ ρ H K:=by
 refine a0G r (fun m w a _ hx _=>?_) h
 have hc:=hx c
 unfold c2s at hp
 generalize hq:ρ c=q at hp hc
 split at hp
 ·cases hp
  exact ⟨a.eval x,by simp [execOp,a5M hc,asBool],hx x⟩
 ·cases hp
  exact ⟨a.eval y,by simp [execOp,a5M hc,asBool],hx y⟩
 ·cases hp
def a2H(op:BinOp)(k:IntKind)(a b:Int):Int :=
 k.wrap (match op with
  | .and=>(BitVec.ofInt k.bits a &&& BitVec.ofInt k.bits b).toNat
  | .or=>(BitVec.ofInt k.bits a ||| BitVec.ofInt k.bits b).toNat
  | .xor=>(BitVec.ofInt k.bits a ^^^ BitVec.ofInt k.bits b).toNat
  | _=>(BitVec.ofInt k.bits a &&& ~~~BitVec.ofInt k.bits b).toNat)
def c5q:BinOp->AV->AV->Option AV
 | .add,.int k a,.int j b=>if k=j then some (.int k (k.wrap (a+b))) else none
 | .sub,.int k a,.int j b=>if k=j then some (.int k (k.wrap (a - b))) else none
 | .mul,.int k a,.int j b=>if k=j then some (.int k (k.wrap (a*b))) else none
 | .and,.int k a,.int j b=>if k=j then some (.int k (a2H .and k a b)) else none
 | .or,.int k a,.int j b=>if k=j then some (.int k (a2H .or k a b)) else none
 | .xor,.int k a,.int j b=>if k=j then some (.int k (a2H .xor k a b)) else none
 | .andNot,.int k a,.int j b=>if k=j then some (.int k (a2H .andNot k a b)) else none
 | .eql,.int k a,.int j b=>if k=j then some (.bool (decide (a=b))) else none
 | .neq,.int k a,.int j b=>if k=j then some (.bool (decide (a≠b))) else none
 | .lss,.int k a,.int j b=>if k=j then some (.bool (decide (a<b))) else none
 | .leq,.int k a,.int j b=>if k=j then some (.bool (decide (a<=b))) else none
 | .gtr,.int k a,.int j b=>if k=j then some (.bool (decide (b<a))) else none
 | .geq,.int k a,.int j b=>if k=j then some (.bool (decide (b<=a))) else none
 | .eql,.str a,.str b=>some (.bool (decide (a=b)))
 | .neq,.str a,.str b=>some (.bool (decide (a≠b)))
 | .lss,.str a,.str b=>some (.bool (Op.bytesLess a b))
 | _,_,_=>none
theorem a8S{α:Type}[BEq α][LawfulBEq α][DecidableEq α](a b:α):(a == b)=decide (a=b):=by by_cases h:a=b<;>simp [h]
theorem b4i{op:BinOp}{x y r:AV}(h:c5q op x y=some r)(t:TypeId){m:Mu}{w:World}{u v:Value}(hu:E.Rel m w x u)(hv:E.Rel m w y v)(xo yo:Operand) :
  ∃z,(do eqGuard op t xo yo u v;binOp op t u v:Sem Value).run E.P w=.ok z w/\E.Rel m w r z:=by
 unfold c5q at h
 split at h
 case h_14|h_15|h_16 =>
  cases a6u hu;cases a6u hv;cases h
  refine ⟨_,by simp [eqGuard,binOp,Op.stringOp,ByteArray.toList_mk,a8S];try rfl,?_⟩
  simp [Env.Rel,Rel]
 case h_17=>cases h
 all_goals
  cases a1m hu;cases a1m hv
  split at h
  ·rename_i hk;subst hk;cases h
   refine ⟨_,by simp [eqGuard,binOp,Op.intArith,Op.intBits,Op.intCmp,a8S,bne];try rfl,?_⟩
   simp [Env.Rel,Rel,a2H]
  ·cases h
theorem b7Y{op:BinOp}{x y:Operand}{t t':TypeId}{r:AV}(hr:c5q op (ρ x) (ρ y)=some r)(h:K r H):a0z E ⟨d,.binOp op t x y t',ty,pos,after,g⟩ ρ H K:=by
 refine a0G r (fun m w a _ hx _=>?_) h
 obtain ⟨z,h1,h2⟩:=b4i (E:=E) hr t (hx x) (hx y) x y
 refine ⟨z,?_,h2⟩
 simp only [execOp,Sem.run_bind] at h1 ⊢
 rw [h1]
 rfl
/-! Conversions of numbers, shifts, division, the one-operand signs -/
theorem b8g{x y:Operand}{t t':TypeId}{k:IntKind}{a b:Int}(hx:ρ x=.int k a)(hy:ρ y=.int k b)(hb:b≠0)(h:K (.int k (k.wrap (a.tdiv b))) H) :
  a0z E ⟨d,.binOp .quo t x y t',ty,pos,after,g⟩ ρ H K:=by
 refine a0G _ (fun m w ac _ hr _=>⟨_,?_,a3v⟩) h
 have h1:=hr x;have h2:=hr y
 rw [hx] at h1;rw [hy] at h2
 simp [execOp,a1m h1,a1m h2,eqGuard,binOp,Op.intDiv,hb]
theorem b0V{x y:Operand}{t t':TypeId}{k:IntKind}{a b:Int}(hx:ρ x=.int k a)(hy:ρ y=.int k b)(hb:b≠0)(h:K (.int k (a.tmod b)) H) :
  a0z E ⟨d,.binOp .rem t x y t',ty,pos,after,g⟩ ρ H K:=by
 refine a0G _ (fun m w ac _ hr _=>⟨_,?_,a3v⟩) h
 have h1:=hr x;have h2:=hr y
 rw [hx] at h1;rw [hy] at h2
 simp [execOp,a1m h1,a1m h2,eqGuard,binOp,Op.intDiv,hb]
theorem a8M{x y:Operand}{t t':TypeId}{k j:IntKind}{a b:Int}(hx:ρ x=.int k a)(hy:ρ y=.int j b)(hb:0<=b)(h:K (.int k (k.wrap (a*2 ^ (min b.toNat k.bits)))) H) :
  a0z E ⟨d,.binOp .shl t x y t',ty,pos,after,g⟩ ρ H K:=by
 refine a0G _ (fun m w ac _ hr _=>⟨_,?_,a3v⟩) h
 have h1:=hr x;have h2:=hr y
 rw [hx] at h1;rw [hy] at h2
 have hn:¬ b<0:=by omega
 simp [execOp,a1m h1,a1m h2,eqGuard,binOp,Op.shift,hn]
theorem a8g{x y:Operand}{t t':TypeId}{k j:IntKind}{a b:Int}(hx:ρ x=.int k a)(hy:ρ y=.int j b)(hb:0<=b)(h:K (.int k (a.fdiv (2 ^ (min b.toNat k.bits)))) H) :
  a0z E ⟨d,.binOp .shr t x y t',ty,pos,after,g⟩ ρ H K:=by
 refine a0G _ (fun m w ac _ hr _=>⟨_,?_,a3v⟩) h
 have h1:=hr x;have h2:=hr y
 rw [hx] at h1;rw [hy] at h2
 have hn:¬ b<0:=by omega
 simp [execOp,a1m h1,a1m h2,eqGuard,binOp,Op.shift,hn]
def unA:UnOp->AV->Option AV
 | .neg,.int k n=>some (.int k (k.wrap (0 - n)))
 | .xor,.int k n=>some (.int k (a2H .xor k (if k.signed then -1 else k.max) n))
 | .not,.bool b=>some (.bool (!b))
 | _,_=>none
theorem c3j{op:UnOp}{x:Operand}{t:TypeId}{r:AV}(hr:unA op (ρ x)=some r)(h:K r H):a0z E ⟨d,.unOp op t x,ty,pos,after,g⟩ ρ H K:=by
 refine a0G r (fun m w a _ hx _=>?_) h
 have hc:=hx x
 unfold unA at hr
 generalize hq:ρ x=q at hr hc
 split at hr
 ·cases hr
  exact ⟨_,by simp [execOp,a1m hc,Op.unary,Op.intArith],a3v⟩
 ·cases hr
  exact ⟨_,by simp [execOp,a1m hc,Op.unary,Op.intBits];rfl,a3v⟩
 ·cases hr
  exact ⟨_,by simp [execOp,a5M hc,Op.unary],b1H⟩
 ·cases hr
/-! What the table says of a type -/
theorem a0Q{t:TypeId}(hok:E.Ok)(ht:Nat.blt t E.n=true):∃i d,E.P.info? t=some i/\E.P.underlying t=some d/\i.size=(E.ti t).sz/\i.bytes=(E.ti t).bt/\b5g d=(E.ti t).k /\
  (i.zero.map fun v=>v.cells.toList.map b5d)=(E.ti t).z/\c5s E.P t d=(E.ti t).eq/\E.cx.sz t=(E.ti t).sz:=by
 have h:=hok.2.1 t (by simpa using ht)
 unfold c5z at h
 cases hi:E.P.info? t with
 | none=>rw [hi] at h;cases h
 | some i =>
  cases hd:E.P.underlying t with
  | none=>rw [hi,hd] at h;cases h
  | some d =>
   rw [hi,hd] at h
   simp only [Option.some.injEq] at h
   rw [<- h]
   exact ⟨i,d,rfl,rfl,rfl,rfl,rfl,rfl,rfl,by simp [Env.cx,Env.sz,hi]⟩
theorem a5V{t:TypeId}{k:IntKind}(hok:E.Ok)(ht:Nat.blt t E.n=true)(h:(E.ti t).k=.int k):E.P.underlying t=some (.int k):=by
 obtain ⟨i,d,_,h2,_,_,h5,_⟩:=a0Q hok ht
 rw [h] at h5
 unfold b5g at h5
 split at h5<;>simp_all
theorem b2u{t:TypeId}(hok:E.Ok)(ht:Nat.blt t E.n=true)(h:(E.ti t).k=.bool):E.P.underlying t=some .bool:=by
 obtain ⟨i,d,_,h2,_,_,h5,_⟩:=a0Q hok ht
 rw [h] at h5
 unfold b5g at h5
 split at h5<;>simp_all
theorem a8O{t:TypeId}(hok:E.Ok)(ht:Nat.blt t E.n=true)(h:(E.ti t).k=.str):E.P.underlying t=some .string:=by
 obtain ⟨i,d,_,h2,_,_,h5,_⟩:=a0Q hok ht
 rw [h] at h5
 unfold b5g at h5
 split at h5<;>simp_all
theorem a3z{t e:TypeId}(hok:E.Ok)(ht:Nat.blt t E.n=true)(h:(E.ti t).k=.sl e):E.P.underlying t=some (.slice e):=by
 obtain ⟨i,d,_,h2,_,_,h5,_⟩:=a0Q hok ht
 rw [h] at h5
 unfold b5g at h5
 split at h5<;>simp_all
theorem b8k{t e:TypeId}(hok:E.Ok)(ht:Nat.blt t E.n=true)(h:(E.ti t).k=.ptr e):E.P.underlying t=some (.pointer e):=by
 obtain ⟨i,d,_,h2,_,_,h5,_⟩:=a0Q hok ht
 rw [h] at h5
 unfold b5g at h5
 split at h5<;>simp_all
theorem c1h{t e:TypeId}{n:Nat}(hok:E.Ok)(ht:Nat.blt t E.n=true)(h:(E.ti t).k=.arr n e):E.P.underlying t=some (.array n e):=by
 obtain ⟨i,d,_,h2,_,_,h5,_⟩:=a0Q hok ht
 rw [h] at h5
 unfold b5g at h5
 split at h5<;>simp_all
theorem a6S{t k e:TypeId}(hok:E.Ok)(ht:Nat.blt t E.n=true)(h:(E.ti t).k=.map k e):E.P.underlying t=some (.map k e):=by
 obtain ⟨i,d,_,h2,_,_,h5,_⟩:=a0Q hok ht
 rw [h] at h5
 unfold b5g at h5
 split at h5<;>simp_all
theorem a3A{t:TypeId}{fs:List (Nat × TypeId)}(hok:E.Ok)(ht:Nat.blt t E.n=true)(h:(E.ti t).k=.struct fs) :
  ∃F:Array Field,E.P.underlying t=some (.struct F)/\F.toList.map (fun f=>(f.offset,f.type))=fs:=by
 obtain ⟨i,d,_,h2,_,_,h5,_⟩:=a0Q hok ht
 rw [h] at h5
 unfold b5g at h5
 split at h5<;>simp_all
theorem c5j{t:TypeId}(hok:E.Ok)(ht:Nat.blt t E.n=true)(h:(E.ti t).k=.fn):∃p q r,E.P.underlying t=some (.func p q r):=by
 obtain ⟨i,d,_,h2,_,_,h5,_⟩:=a0Q hok ht
 rw [h] at h5
 unfold b5g at h5
 split at h5<;>simp_all
theorem b7K{t:TypeId}(hok:E.Ok)(ht:Nat.blt t E.n=true)(w:World):(isAgg t).run E.P w=.ok (E.ti t).k.agg w:=by
 obtain ⟨i,d,_,h2,_,_,h5,_⟩:=a0Q hok ht
 rw [<- h5]
 unfold isAgg
 rw [Sem.run_bind,run_underlying h2 w]
 cases d<;>simp [b5g,TK.agg]
theorem a1V{t:TypeId}(hok:E.Ok)(ht:Nat.blt t E.n=true)(w:World):(sizeOf t).run E.P w=.ok (E.ti t).sz w:=by
 obtain ⟨i,d,h1,_,h3,_⟩:=a0Q hok ht
 simp [sizeOf,typeInfo,h1,h3]
theorem b2l{x:Operand}{t u:TypeId}{k j:IntKind}{n:Int}(hx:ρ x=.int k n)(ht:Nat.blt t E.n=true)(hu:Nat.blt u E.n=true)(hk:(E.ti u).k=.int j)(h:K (.int j (j.wrap n)) H) :
  a0z E ⟨d,.convert t u x,ty,pos,after,g⟩ ρ H K:=by
 refine a0G _ (fun m w a hok hr _=>⟨_,?_,a3v⟩) h
 have h1:=hr x
 rw [hx] at h1
 obtain ⟨i,dd,_,h2,_⟩:=a0Q hok ht
 simp [execOp,convert,run_underlying h2,run_underlying (a5V hok hu hk),a1m h1,Conv.intToInt]
end
end Go.Abs
namespace Go.Abs
/-! ### Worlds that grow -/
section
variable{sz:Cx}{m:Mu}{w:World}{H:Hp}
theorem a5j{o:Obj}{b:Nat}{s:TypeId × Nat}(h:w.shape? b=some s):(w.alloc o).shape? b=some s:=by
 unfold World.shape? at *
 have hlt:b<w.heap.size:=by
  rcases Nat.lt_or_ge b w.heap.size with h'|h'
  ·exact h'
  ·rw [Array.getElem?_eq_none h'] at h;cases h
 rw [RowKit.Below.heap_alloc w o b hlt];exact h
theorem Ext.drew(m:Mu)(w:World):Ext m w m w.drew :=
 ⟨rfl,rfl,rfl,Nat.le_refl _,fun _ _ _=>rfl,fun _ _ h=>h,Nat.le_refl _,fun _ _ _ _ h=>h,fun _ _ h=>h⟩
theorem Ext.alloc(m:Mu)(w:World)(o:Obj):Ext m w m (w.alloc o) :=
 ⟨rfl,rfl,rfl,by simp,fun b hb _=>RowKit.Below.heap_alloc w o b hb,fun _ _ h=>h,Nat.le_refl _,fun _ _ _ _ h=>h,fun _ _ h=>a5j h⟩
theorem Sim.of_ext{w':World}(h:Sim sz m w H)(e:Ext m w m w')(hk:∀b,MS.blk b∈m->w'.heap[b]?=w.heap[b]?):Sim sz m w' H where
 len:=h.len
 live:=fun id o ho=>by
  obtain ⟨x,h1,h2⟩:=h.live id o ho
  exact ⟨x,h1,h2.ext e fun b hb=>hk b (hb ▸ List.mem_of_getElem? h1)⟩
 dead:=h.dead
 inj:=h.inj
 xlt:=fun b hb=>Nat.lt_of_lt_of_le (h.xlt b hb) e.size
 disj:=h.disj
theorem Sim.drew(h:Sim sz m w H):Sim sz m w.drew H:=h.of_ext (Ext.drew m w) fun _ _=>rfl
theorem Sim.alloc(h:Sim sz m w H)(o:Obj):Sim sz m (w.alloc o) H :=
 h.of_ext (Ext.alloc m w o) fun b hb=>RowKit.Below.heap_alloc w o b (h.lt hb)
theorem Ext.push(m:Mu)(w:World)(o:Obj):Ext m w (m++[.blk w.heap.size]) (w.alloc o) where
 os:=rfl
 tape:=rfl
 output:=rfl
 size:=by simp
 keep:=fun b hb _=>RowKit.Below.heap_alloc w o b hb
 fresh:=fun b hb h=>by
  simp only [List.mem_append,List.mem_singleton,MS.blk.injEq] at h
  rcases h with h|h
  ·exact h
  ·omega
 len:=by simp
 ids:=fun id x hid _ h=>by rwa [List.getElem?_append_left hid] at h
 shape:=fun _ _ h=>a5j h
theorem Sim.push(h:Sim sz m w H){o:Obj}{ao:AO}(hb:OB sz (m++[.blk w.heap.size]) (w.alloc o) ao (.blk w.heap.size)) :
  Sim sz (m++[.blk w.heap.size]) (w.alloc o) (H++[some ao]) where
 len:=by simp [h.len]
 live:=fun id o' ho=>by
  rcases Nat.lt_or_ge id H.length with hlt|hge
  ·rw [List.getElem?_append_left hlt] at ho
   obtain ⟨x,h1,h2⟩:=h.live id o' ho
   refine ⟨x,by rw [List.getElem?_append_left (h.len ▸ hlt)];exact h1,h2.ext (Ext.push m w o) fun b hb=>?_⟩
   exact RowKit.Below.heap_alloc w o b (h.lt (hb ▸ List.mem_of_getElem? h1))
  rw [List.getElem?_append_right hge] at ho
  have h0:id - H.length=0:=by
   rcases Nat.eq_zero_or_pos (id - H.length) with h0|h0
   ·exact h0
   ·rw [List.getElem?_eq_none (by simp;omega)] at ho;cases ho
  rw [h0] at ho
  simp at ho
  subst ho
  refine ⟨.blk w.heap.size,?_,hb⟩
  rw [List.getElem?_append_right (by rw [h.len];exact hge),h.len,h0]
  rfl
 dead:=fun id ho=>by
  rcases Nat.lt_or_ge id H.length with hlt|hge
  ·rw [List.getElem?_append_left hlt] at ho
   rw [List.getElem?_append_left (h.len ▸ hlt)]
   exact h.dead id ho
  rw [List.getElem?_append_right hge] at ho
  have h0:id - H.length=0:=by
   rcases Nat.eq_zero_or_pos (id - H.length) with h0|h0
   ·exact h0
   ·rw [List.getElem?_eq_none (by simp;omega)] at ho;cases ho
  rw [h0] at ho
  simp at ho
 inj:=fun i j b hi hj=>by
  have hlt:∀i:Nat,m[i]?=some (MS.blk b)->b<w.heap.size:=fun i hi=>h.lt (List.mem_of_getElem? hi)
  have key:∀i:Nat,(m++[MS.blk w.heap.size])[i]?=some (.blk b)->m[i]?=some (.blk b)\/(i=m.length/\b=w.heap.size):=fun i hi=>by
   rcases Nat.lt_or_ge i m.length with hl|hg
   ·rw [List.getElem?_append_left hl] at hi;exact .inl hi
   rw [List.getElem?_append_right hg] at hi
   have h0:i - m.length=0:=by
    rcases Nat.eq_zero_or_pos (i - m.length) with h0|h0
    ·exact h0
    ·rw [List.getElem?_eq_none (by simp;omega)] at hi;cases hi
   rw [h0] at hi
   simp at hi
   exact .inr ⟨by omega,hi.symm⟩
  rcases key i hi with h1|⟨h1,h2⟩<;>rcases key j hj with h3|⟨h3,h4⟩
  ·exact h.inj i j b h1 h3
  ·have:=hlt i h1;omega
  ·have:=hlt j h3;omega
  ·omega
 xlt:=fun b hb=>by have:=h.xlt b hb;simp;omega
 disj:=fun b hb hx=>by
  simp only [List.mem_append,List.mem_singleton,MS.blk.injEq] at hb
  rcases hb with hb|rfl
  ·exact h.disj b hb hx
  ·exact Nat.lt_irrefl _ (h.xlt _ hx)
theorem Ext.owned{w':World}{b:Nat}(hb:MS.blk b∈m)(hos:w'.os=w.os)(htp:w'.tape=w.tape)(hout:w'.output=w.output)(hsz:w'.heap.size=w.heap.size)
  (hk:∀c,c≠b->w'.heap[c]?=w.heap[c]?) (hsh:∀s,w.shape? b=some s->w'.shape? b=some s):Ext m w m w' where
 os:=hos
 tape:=htp
 output:=hout
 size:=by omega
 keep:=fun c _ hn=>hk c fun e=>hn (e ▸ hb)
 fresh:=fun _ _ h=>h
 len:=Nat.le_refl _
 ids:=fun _ _ _ _ h=>h
 shape:=fun c s h=>by
  by_cases hc:c=b
  ·subst hc;exact hsh s h
  ·unfold World.shape? at *;rw [hk c hc];exact h
theorem Sim.owned{w':World}(hs:Sim sz m w H)(e:Ext m w m w'){id b:Nat}(hid:m[id]?=some (.blk b))(hk:∀c,c≠b->w'.heap[c]?=w.heap[c]?){ao:AO}(ho:OB sz m w' ao (.blk b)) :
  Sim sz m w' (H.set id (some ao)) where
 len:=by simp [hs.len]
 live:=fun i o h=>by
  by_cases hi:id=i
  ·subst hi
   have hlt:id<H.length:=by rw [<- hs.len];exact (List.getElem?_eq_some_iff.1 hid).1
   rw [List.getElem?_set_self hlt] at h
   cases h
   exact ⟨_,hid,ho⟩
  rw [List.getElem?_set_ne hi] at h
  obtain ⟨x,h1,h2⟩:=hs.live i o h
  exact ⟨x,h1,h2.ext e fun c hc=>hk c fun e2=>hi (hs.inj id i b hid (by rw [h1,hc,e2]))⟩
 dead:=fun i h=>by
  by_cases hi:id=i
  ·subst hi
   have hlt:id<H.length:=by rw [<- hs.len];exact (List.getElem?_eq_some_iff.1 hid).1
   rw [List.getElem?_set_self hlt] at h
   cases h
  ·rw [List.getElem?_set_ne hi] at h
   exact hs.dead i h
 inj:=hs.inj
 xlt:=fun b hb=>Nat.lt_of_lt_of_le (hs.xlt b hb) e.size
 disj:=hs.disj
end
section
variable{E:Env}{N n0:Nat}{Q:Exit->St->Prop}{s:St}{ρ:Operand->AV}{H:Hp}{K:AV->Hp->Prop}
variable{d:Option Tmp}{ty:TypeId}{pos:String}{after:Array Edge}{g:Option (Nat × Bool)}
theorem b0P{w:World}{a:Addr}{us:List Value}(h:∀(j:Nat) (u:Value),us[j]?=some u->w.cell? (a.add j)=some u):(loadCells a us.length).run E.P w=.ok us.toArray w :=
 run_loadCells_list w a us h
def ldA(t:Ty)(cs:List AV):Option AV :=
 if t.k.agg then (if t.sz<=cs.length then some (.agg (cs.take t.sz)) else none) else cs.head?
theorem a9H{t:TypeId}(hok:E.Ok)(ht:Nat.blt t E.n=true){m:Mu}{w:World}{a:Addr}{cs:List AV}{us:List Value}{r:AV}(hr:ldA (E.ti t) cs=some r)(hc:E.RelL m w cs us)
  (hl:∀(j:Nat) (u:Value),us[j]?=some u->w.cell? (a.add j)=some u):∃v,(loadVar t a).run E.P w=.ok v w/\E.Rel m w r v:=by
 unfold ldA at hr
 unfold loadVar
 simp only [Sem.run_bind,b7K hok ht,Result.andThen_ok]
 split at hr
 ·rename_i hag
  split at hr
  ·rename_i hlen
   cases hr
   have hul:(us.take (E.ti t).sz).length=(E.ti t).sz:=by rw [List.length_take,hc.length];omega
   have h1:=b0P (E:=E) (w:=w) (a:=a) (us:=us.take (E.ti t).sz) (fun j u hu=>by
    rw [List.getElem?_take] at hu
    split at hu
    ·exact hl j u hu
    ·cases hu)
   rw [hul] at h1
   refine ⟨.agg (us.take (E.ti t).sz).toArray,by simp only [hag,if_true,Sem.run_bind,a1V hok ht,Result.andThen_ok,h1,Sem.run_pure],?_⟩
   show Abs.Rel _ _ _ _ _
   simp only [Abs.Rel]
   exact ⟨_,rfl,hc.take _⟩
  ·cases hr
 rename_i hag
 cases cs with
 | nil=>cases hr
 | cons x xs =>
  simp at hr
  subst hr
  obtain ⟨u,r,rfl,h1,_⟩:=a0o.1 hc
  refine ⟨u,?_,h1⟩
  have h0:=hl 0 u (by simp)
  have hadd:a.add 0=a:=by simp [Addr.add]
  rw [hadd] at h0
  simp [hag,h0]
def a2o(H:Hp):AV->Option (List AV)
 | .fp cs=>some cs
 | .ptr id off=>match H[id]? with
  | some (some (.cells cs _))=>some (cs.drop off)
  | _=>none
 | .pe id i off=>match H[id]? with
  | some (some (.arr es _))=>match es[i]? with
   | some x=>if known x then some ((a0Z x).drop off) else none
   | none=>none
  | _=>none
 | _=>none
theorem a9d{vs:List Value}{k i:Nat}{v:Value}(hk:∀u∈vs,u.cells.size=k)(hv:vs[i]?=some v)(j:Nat)(hj:j<k):(flat vs)[i*k+j]?=v.cells.toList[j]?:=by
 induction vs generalizing i with
 | nil=>simp at hv
 | cons x xs ih =>
  have hx:x.cells.toList.length=k:=by simpa using hk x (by simp)
  cases i with
  | zero =>
   simp at hv;subst hv
   simp only [flat,List.flatMap_cons,Nat.zero_mul,Nat.zero_add]
   rw [List.getElem?_append_left (by omega)]
  | succ i =>
   simp at hv
   have:=ih (fun u hu=>hk u (by simp [hu])) hv
   simp only [flat,List.flatMap_cons]
   rw [List.getElem?_append_right (by rw [hx,Nat.add_mul];omega)]
   rw [show (i+1)*k+j - x.cells.toList.length=i*k+j by rw [hx,Nat.add_mul];omega]
   exact this
theorem a6E{m:Mu}{w:World}{x:AV}{v:Value}{cs:List AV}(hsim:E.Sim m w H)(hc:a2o H x=some cs)(hx:E.Rel m w x v) :
  ∃a us,v=.pointer (some a)/\E.RelL m w cs us/\∀(j:Nat) (u:Value),us[j]?=some u->w.cell? (a.add j)=some u:=by
 cases x with
 | fp c =>
  simp only [a2o,Option.some.injEq] at hc
  subst hc
  simp only [Env.Rel,Abs.Rel] at hx
  obtain ⟨a,us,h1,h2,h3⟩:=hx
  refine ⟨a,us,h1,h2,fun j u hu=>?_⟩
  obtain ⟨a',ha,_,_,_,h4⟩:=h3 (by intro he;rw [he] at hu;simp at hu)
  cases ha
  exact h4 j u hu
 | ptr id off =>
  simp only [a2o] at hc
  split at hc
  ·rename_i c e ho
   cases hc
   simp only [Env.Rel,Abs.Rel] at hx
   obtain ⟨a,h1,_,h3⟩:=hx
   obtain ⟨b,hb,hob⟩:=hsim.live id _ ho
   cases b with
   | dead=>exact hob.elim
   | nil=>exact hob.elim
   | blk b =>
    obtain ⟨us,h4,h5⟩:=hob
    refine ⟨a,us.toList.drop off,h1,h5.drop off,fun j u hu=>?_⟩
    rw [h3 b hb]
    have:(⟨b,off,none⟩:Addr).add j=⟨b,off+j,none⟩:=by unfold Addr.add;split<;>simp_all
    rw [this,cell_of_row w b (off+j) us e (0,0) h4]
    simpa [List.getElem?_drop] using hu
  ·cases hc
 | pe id i off =>
  simp only [a2o] at hc
  split at hc
  ·rename_i es e ho
   split at hc
   ·rename_i y hy
    split at hc
    ·rename_i hkn
     cases hc
     simp only [Env.Rel,Abs.Rel] at hx
     obtain ⟨a,h1,_,h3⟩:=hx
     obtain ⟨b,hb,hob⟩:=hsim.live id _ ho
     cases b with
     | dead=>exact hob.elim
     | nil=>subst hob;simp at hy
     | blk b =>
      obtain ⟨us,vs,h4,h5,h6,h7⟩:=hob
      obtain ⟨u,hu,hru⟩:=h5.get i hy
      have hcr:=a2z hru hkn
      have hus:u.cells.size=E.cx.sz e:=h6 u (List.mem_of_getElem? hu)
      refine ⟨a,u.cells.toList.drop off,h1,hcr.drop off,fun j z hz=>?_⟩
      obtain ⟨e',k',h8,h9⟩:=h3 b hb
      have he:e'=e:=by
       unfold World.shape? at h8
       rw [h4] at h8
       simp at h8
       exact h8.1.symm
      subst he
      rw [h9]
      have hadd:(⟨b,i*E.cx.sz e'+off,none⟩:Addr).add j=⟨b,i*E.cx.sz e'+(off+j),none⟩:=by
       unfold Addr.add;split
       ·simp_all
       ·simp;omega
      rw [hadd,cell_of_row w b _ us e' (0,0) h4]
      rw [List.getElem?_drop] at hz
      have hlt:off+j<E.cx.sz e':=by
       rw [<- hus]
       have:=(List.getElem?_eq_some_iff.1 hz).1
       simpa using this
      have hf:=a9d h6 hu (off+j) hlt
      rw [hz,<- h7,List.getElem?_take] at hf
      split at hf
      ·simpa using hf
      ·simp at hf
    ·cases hc
   ·cases hc
  ·cases hc
 | _=>simp [a2o] at hc
theorem a3t{t:TypeId}{x:Operand}{cs:List AV}{r:AV}(hc:a2o H (ρ x)=some cs)(ht:Nat.blt t E.n=true)(hr:ldA (E.ti t) cs=some r)(h:K r H) :
  a0z E ⟨d,.load t x,ty,pos,after,g⟩ ρ H K:=by
 refine a0G r (fun m w a hok hx hsim=>?_) h
 obtain ⟨ad,us,h1,h2,h3⟩:=a6E hsim hc (hx x)
 obtain ⟨v,h4,h5⟩:=a9H hok ht hr h2 h3
 exact ⟨v,by simp [execOp,h1,Instr.loadAt,Instr.sureAddr,h4],h5⟩
def a4F(t:Ty)(i:Nat):Option (Nat × TypeId) :=
 match t.k with
 | .struct fs=>fs[i]?
 | _=>none
def a5S(off:Nat):AV->Option AV
 | .fp cs=>some (.fp (cs.drop off))
 | .ptr id o=>some (.ptr id (o+off))
 | .pe id i o=>some (.pe id i (o+off))
 | _=>none
theorem b7R{m:Mu}{w:World}{x r:AV}{a:Addr}{off:Nat}(hr:a5S off x=some r)(hx:E.Rel m w x (.pointer (some a))):E.Rel m w r (.pointer (some (a.add off))):=by
 have hadd:∀(b o:Nat),(⟨b,o,none⟩:Addr).add off=⟨b,o+off,none⟩:=fun b o=>by unfold Addr.add;split<;>simp_all
 have hadd2:∀(j:Nat),(a.add off).add j=a.add (off+j):=fun j=>by
  unfold Addr.add;by_cases h1:off=0<;>by_cases h2:j=0<;>simp [h1,h2,Nat.add_assoc]
 have hblk:(a.add off).block=a.block:=by unfold Addr.add;split<;>rfl
 cases x with
 | fp cs =>
  simp only [a5S,Option.some.injEq] at hr;subst hr
  simp only [Env.Rel,Abs.Rel] at hx ⊢
  obtain ⟨a',us,h1,h2,h3⟩:=hx
  cases h1
  refine ⟨_,us.drop off,rfl,h2.drop off,fun hne=>?_⟩
  obtain ⟨a',ha,h4,h5,hX,h6⟩:=h3 (by intro he;rw [he] at hne;simp at hne)
  cases ha
  refine ⟨_,rfl,by rw [hblk];exact h4,by rw [hblk];exact h5,by rw [hblk];exact hX,fun j u hu=>?_⟩
  rw [hadd2]
  exact h6 _ u (by rw [<- hu,List.getElem?_drop])
 | ptr id o =>
  simp only [a5S,Option.some.injEq] at hr;subst hr
  simp only [Env.Rel,Abs.Rel] at hx ⊢
  obtain ⟨a',h1,h2,h3⟩:=hx
  cases h1
  exact ⟨_,rfl,h2,fun b hb=>by rw [h3 b hb,hadd]⟩
 | pe id i o =>
  simp only [a5S,Option.some.injEq] at hr;subst hr
  simp only [Env.Rel,Abs.Rel] at hx ⊢
  obtain ⟨a',h1,h2,h3⟩:=hx
  cases h1
  refine ⟨_,rfl,h2,fun b hb=>?_⟩
  obtain ⟨e,k,h4,h5⟩:=h3 b hb
  exact ⟨e,k,h4,by rw [h5,hadd,Nat.add_assoc]⟩
 | _=>simp [a5S] at hr
theorem b9G{m:Mu}{w:World}{x r:AV}{v:Value}{off:Nat}(hr:a5S off x=some r)(hx:E.Rel m w x v):∃a,v=.pointer (some a):=by
 cases x<;>simp [a5S] at hr<;>simp only [Env.Rel,Abs.Rel] at hx
 ·obtain ⟨a,_,h,_⟩:=hx;exact ⟨a,h⟩
 ·obtain ⟨a,h,_⟩:=hx;exact ⟨a,h⟩
 ·obtain ⟨a,h,_⟩:=hx;exact ⟨a,h⟩
theorem b2V{t:TypeId}{i off:Nat}{u:TypeId}(hok:E.Ok)(ht:Nat.blt t E.n=true)(ho:a4F (E.ti t) i=some (off,u)) :
  ∃(F:Array Field) (f:Field),E.P.underlying t=some (.struct F)/\F[i]?=some f/\f.offset=off/\f.type=u:=by
 unfold a4F at ho
 split at ho
 ·rename_i fs hk
  obtain ⟨F,h2,h3⟩:=a3A hok ht hk
  rw [<- h3] at ho
  cases hf:F[i]? with
  | none =>
   have:F.toList[i]?=none:=by simpa using hf
   simp [List.getElem?_map,this] at ho
  | some f =>
   have hfl:F.toList[i]?=some f:=by simpa using hf
   simp only [List.getElem?_map,hfl,Option.map_some,Option.some.injEq,Prod.mk.injEq] at ho
   exact ⟨F,f,h2,hf,ho.1,ho.2⟩
 ·cases ho
theorem a3l{t:TypeId}{x:Operand}{i off:Nat}{u:TypeId}{r:AV}(ht:Nat.blt t E.n=true)(ho:a4F (E.ti t) i=some (off,u))(hu:Nat.blt u E.n=true)
  (hz:Nat.beq (E.ti u).sz 0=false) (hr:a5S off (ρ x)=some r) (h:K r H):a0z E ⟨d,.fieldAddr t x i,ty,pos,after,g⟩ ρ H K:=by
 refine a0G r (fun m w a hok hx hsim=>?_) h
 obtain ⟨ad,h1⟩:=b9G hr (hx x)
 obtain ⟨F,f,h2,hf,h3,h4⟩:=b2V hok ht ho
 have hr':=hx x
 rw [h1] at hr'
 subst h3;subst h4
 have hsz:=a1V hok hu w
 have hne:¬ (E.ti f.type).sz=0:=Nat.ne_of_beq_eq_false hz
 refine ⟨.pointer (some (ad.add f.offset)),?_,b7R hr hr'⟩
 simp only [execOp,h1,Instr.fieldAt,Instr.sureAddr,Sem.run_bind,run_underlying h2,Result.andThen_ok,hf,fieldPlace,hsz,hne,if_false,Sem.run_pure]
def b4z(t:Ty)(cs:List AV)(off:Nat):Option AV :=
 if t.k.agg then some (.agg ((cs.drop off).take t.sz)) else cs[off]?
theorem a7Z{t:TypeId}(hok:E.Ok)(ht:Nat.blt t E.n=true){m:Mu}{w:World}{cs:List AV}{us:List Value}{off:Nat}{r:AV}(hr:b4z (E.ti t) cs off=some r)(hc:E.RelL m w cs us) :
  ∃v,(part t us.toArray off).run E.P w=.ok v w/\E.Rel m w r v:=by
 unfold b4z at hr
 unfold part
 simp only [Sem.run_bind,b7K hok ht,Result.andThen_ok]
 split at hr
 ·rename_i hag
  cases hr
  refine ⟨.agg (us.toArray.extract off (off+(E.ti t).sz)),by simp [hag,a1V hok ht],?_⟩
  show Abs.Rel _ _ _ _ _
  simp only [Abs.Rel]
  exact ⟨(us.drop off).take (E.ti t).sz,by simp [List.extract_toArray,List.extract_eq_take_drop],(hc.drop off).take _⟩
 rename_i hag
 obtain ⟨u,h1,h2⟩:=hc.get off hr
 exact ⟨u,by simp [hag,h1],h2⟩
theorem c0f{t:TypeId}{x:Operand}{i off:Nat}{u:TypeId}{cs:List AV}{r:AV}(hx:ρ x=.agg cs)(ht:Nat.blt t E.n=true)(ho:a4F (E.ti t) i=some (off,u))(hu:Nat.blt u E.n=true)
  (hr:b4z (E.ti u) cs off=some r) (h:K r H):a0z E ⟨d,.field t x i,ty,pos,after,g⟩ ρ H K:=by
 refine a0G r (fun m w a hok hrel hsim=>?_) h
 obtain ⟨F,f,h2,hf,h3,h4⟩:=b2V hok ht ho
 have h5:=hrel x
 rw [hx] at h5
 simp only [Env.Rel,Abs.Rel] at h5
 obtain ⟨us,h6,h7⟩:=h5
 obtain ⟨v,h8,h9⟩:=a7Z hok hu hr h7
 subst h3;subst h4
 exact ⟨v,by simp [execOp,Instr.field,run_underlying h2,hf,h6,asAgg,h8],h9⟩
def eqF(rec:TypeId->AV->AV->Option Bool)(E:Env)(xs ys:List AV):List (Nat × TypeId)->Option Bool
 | []=>some true
 | (off,t)::fs =>
  match Nat.blt t E.n,b4z (E.ti t) xs off,b4z (E.ti t) ys off with
  | true,some x,some y=>match rec t x y,eqF rec E xs ys fs with
   | some a,some b=>some (a&&b)
   | _,_=>none
  | _,_,_=>none
def eqA(E:Env):Nat->TypeId->AV->AV->Option Bool
 | 0,_,_,_=>none
 | f+1,t,x,y =>
  match (E.ti t).k,x,y with
  | .int _,.int k a,.int j b=>if k=j then some (decide (a=b)) else none
  | .bool,.bool a,.bool b=>some (a == b)
  | .str,.str a,.str b=>some (decide (a=b))
  | .ptr _,.nilp,.nilp=>some true
  | .ptr _,.nilp,.ptr _ _=>some false
  | .ptr _,.ptr _ _,.nilp=>some false
  | .map _ _,.nilm,.nilm=>some true
  | .map _ _,.mp _,.nilm=>some false
  | .map _ _,.nilm,.mp _=>some false
  | .fn,.clo _ _ _,.nilf=>some false
  | .fn,.nilf,.nilf=>some true
  | .struct fs,.agg xs,.agg ys=>if (E.ti t).eq then eqF (eqA E f) E xs ys fs else none
  | _,_,_=>none
theorem b0r{rec:TypeId->AV->AV->Option Bool}{D:Nat}(hok:E.Ok){m:Mu}{w:World}
  (hrec:∀t x y b u v,Nat.blt t E.n=true->rec t x y=some b->E.Rel m w x u->E.Rel m w y v->(Op.equalIn D t u v).run E.P w=.ok b w) {xs ys:List AV} {us vs:List Value}
  (hx:E.RelL m w xs us) (hy:E.RelL m w ys vs):∀(F:List Field) (b:Bool),(F.any fun f=>f.name == "_")=false → eqF rec E xs ys (F.map fun f=>(f.offset,f.type))=some b →
  (Op.eqFields D us.toArray vs.toArray F).run E.P w=.ok b w
 | [],b,_,h=>by simp [eqF] at h;simp [Op.eqFields,h]
 | f::F,b,hn,h=>by
  simp only [List.any_cons,Bool.or_eq_false_iff] at hn
  have hne:f.name≠ "_":=by simpa using hn.1
  simp only [List.map_cons,eqF] at h
  split at h
  ·rename_i x y ht hpx hpy
   split at h
   ·rename_i p q h1 h2
    cases h
    obtain ⟨u,h3,h4⟩:=a7Z hok ht hpx hx
    obtain ⟨v,h5,h6⟩:=a7Z hok ht hpy hy
    have h7:=hrec _ _ _ _ _ _ ht h1 h4 h6
    have h8:=b0r hok hrec hx hy F q hn.2 h2
    simp only [Op.eqFields,hne,ne_eq,not_false_eq_true,if_true,Sem.run_bind,h3,h5,h7,Result.andThen_ok]
    cases p
    ·simp
    ·simp [h8]
   ·cases h
  ·cases h
theorem b0q(hok:E.Ok){m:Mu}{w:World}:∀(f D:Nat),f<=D->∀(t:TypeId) (x y:AV) (b:Bool) (u v:Value),Nat.blt t E.n=true->eqA E f t x y=some b->E.Rel m w x u->E.Rel m w y v ->
  (Op.equalIn D t u v).run E.P w=.ok b w
 | 0,_,_,_,_,_,_,_,_,_,h,_,_=>by simp [eqA] at h
 | f+1,D,hD,t,x,y,b,u,v,ht,h,hu,hv=>by
  obtain ⟨D,rfl⟩:∃D',D=D'+1:=⟨D - 1,by omega⟩
  simp only [eqA] at h
  split at h
  ·rename_i hk
   split at h
   ·rename_i hkk;subst hkk;cases h
    cases a1m hu;cases a1m hv
    simp [Op.equalIn,run_underlying (a5V hok ht hk),a8S]
   ·cases h
  ·rename_i hk;cases h
   cases a5M hu;cases a5M hv
   simp [Op.equalIn,run_underlying (b2u hok ht hk)]
  ·rename_i hk;cases h
   cases a6u hu;cases a6u hv
   have:∀a b:List UInt8,((ByteArray.mk a.toArray) == (ByteArray.mk b.toArray))=decide (a=b):=fun a b=>by
    rw [beq_toListBytes,ByteArray.toList_mk,ByteArray.toList_mk,a8S]
   simp [Op.equalIn,run_underlying (a8O hok ht hk),this]
  ·rename_i hk;cases h
   simp only [Env.Rel,Abs.Rel] at hu hv;subst hu;subst hv
   simp [Op.equalIn,run_underlying (b8k hok ht hk)]
  ·rename_i hk;cases h
   simp only [Env.Rel,Abs.Rel] at hu hv;subst hu;obtain ⟨a,rfl,_⟩:=hv
   simp [Op.equalIn,run_underlying (b8k hok ht hk)]
  ·rename_i hk;cases h
   simp only [Env.Rel,Abs.Rel] at hu hv;subst hv;obtain ⟨a,rfl,_⟩:=hu
   simp [Op.equalIn,run_underlying (b8k hok ht hk)]
  ·rename_i hk;cases h
   simp only [Env.Rel,Abs.Rel] at hu hv;subst hu;subst hv
   simp [Op.equalIn,run_underlying (a6S hok ht hk)]
  ·rename_i hk;cases h
   simp only [Env.Rel,Abs.Rel] at hu hv;subst hv;obtain ⟨a,rfl,_⟩:=hu
   simp [Op.equalIn,run_underlying (a6S hok ht hk)]
  ·rename_i hk;cases h
   simp only [Env.Rel,Abs.Rel] at hu hv;subst hu;obtain ⟨a,rfl,_⟩:=hv
   simp [Op.equalIn,run_underlying (a6S hok ht hk)]
  ·rename_i hk;cases h
   simp only [Env.Rel,Abs.Rel] at hu hv;subst hv;obtain ⟨a,c,rfl,_⟩:=hu
   obtain ⟨p,q,r,hd⟩:=c5j hok ht hk
   simp [Op.equalIn,run_underlying hd]
  ·rename_i hk;cases h
   simp only [Env.Rel,Abs.Rel] at hu hv;subst hu;subst hv
   obtain ⟨p,q,r,hd⟩:=c5j hok ht hk
   simp [Op.equalIn,run_underlying hd]
  ·rename_i hk
   split at h
   ·rename_i heq
    simp only [Env.Rel,Abs.Rel] at hu hv
    obtain ⟨us,rfl,hus⟩:=hu
    obtain ⟨vs,rfl,hvs⟩:=hv
    obtain ⟨F,h2,h3⟩:=a3A hok ht hk
    have hF:E.P.fieldsOf t=F:=by simp [Program.fieldsOf,h2]
    obtain ⟨i,dd,_,h4,_,_,_,_,h5,_⟩:=a0Q hok ht
    rw [h2] at h4;cases h4
    rw [heq] at h5
    simp only [c5s,Bool.and_eq_true,Bool.not_eq_true'] at h5
    rw [run_equalIn_struct w D t us.toArray vs.toArray (by rw [hF];exact h2) h5.1.2,hF]
    refine b0r hok (fun t x y b u v ht h hu hv=>b0q hok f D (by omega) t x y b u v ht h hu hv) hus hvs F.toList b ?_ (by rw [h3];exact h)
    have:=h5.1.1
    simpa using this
   ·cases h
  ·cases h
end
end Go.Abs
namespace Go.Abs
section
variable{E:Env}{N n0:Nat}{Q:Exit->St->Prop}{s:St}{ρ:Operand->AV}{H:Hp}{K:AV->Hp->Prop}
variable{d:Option Tmp}{ty:TypeId}{pos:String}{after:Array Edge}{g:Option (Nat × Bool)}
def a3P:AV->Bool
 | .bool _|.nilp|.ptr _ _|.nilm|.mp _|.nilf|.clo _ _ _|.agg _=>true
 | _=>false
theorem c1v{f:Nat}{t:TypeId}{cs:List AV}{y:AV}{b:Bool}(h:eqA E (f+1) t (.agg cs) y=some b):∃fs,(E.ti t).k=.struct fs/\(E.ti t).eq=true:=by
 simp only [eqA] at h
 cases hk:(E.ti t).k<;>rw [hk] at h<;>cases y<;>simp at h
 exact ⟨_,rfl,h.1⟩
theorem b7L{t:TypeId}{x y:AV}{b:Bool}(hok:E.Ok)(ht:Nat.blt t E.n=true)(hp:a3P x=true)(hb:eqA E 8 t x y=some b){m:Mu}{w:World}{u v:Value}(hu:E.Rel m w x u)(hv:E.Rel m w y v)
  (op:BinOp) (hop:op=.eql\/op=.neq) (xo yo:Operand) :
  (eqGuard op t xo yo u v).run E.P w=.ok () w/\(binOp op t u v).run E.P w=.ok (.bool (if op=.eql then b else !b)) w:=by
 have he:=b0q hok 8 Op.maxDepth (by decide) t x y b u v ht hb hu hv
 constructor
 ·have hg:u≠.nilIface/\(∀cs,u=.agg cs->E.P.eqGuardType E.P.depth t=false):=by
   cases x<;>simp [a3P] at hp<;>simp only [Env.Rel,Abs.Rel] at hu
   case agg cs =>
    obtain ⟨us,rfl,_⟩:=hu
    refine ⟨by simp,fun _ _=>?_⟩
    obtain ⟨fs,hk,heq⟩:=c1v hb
    obtain ⟨i,dd,_,h4,_,_,_,_,h5,_⟩:=a0Q hok ht
    obtain ⟨F,h2,h3⟩:=a3A hok ht hk
    rw [h2] at h4;cases h4
    rw [heq] at h5
    simp only [c5s,Bool.and_eq_true,Bool.not_eq_true'] at h5
    exact h5.2
   all_goals
    first|(subst hu;exact ⟨by simp,by simp⟩)|(obtain ⟨_,rfl,_⟩:=hu;exact ⟨by simp,by simp⟩)|(obtain ⟨_,_,rfl,_⟩:=hu;exact ⟨by simp,by simp⟩)
  unfold eqGuard
  cases u with
  | nilIface=>exact absurd rfl hg.1
  | agg a=>cases v<;>rcases hop with rfl|rfl<;>simp [hg.2 a rfl]
  | _=>rcases hop with rfl|rfl<;>simp
 rcases hop with rfl|rfl <;>
  cases x<;>simp [a3P] at hp<;>simp only [Env.Rel,Abs.Rel] at hu <;>
  first|(subst hu;simp [binOp,Op.equal,he])|(obtain ⟨_,rfl,_⟩:=hu;simp [binOp,Op.equal,he])|(obtain ⟨_,_,rfl,_⟩:=hu;simp [binOp,Op.equal,he])
theorem b8d{x y:Operand}{t t':TypeId}{b:Bool}(ht:Nat.blt t E.n=true)(hp:a3P (ρ x)=true)(hb:eqA E 8 t (ρ x) (ρ y)=some b)(h:K (.bool b) H) :
  a0z E ⟨d,.binOp .eql t x y t',ty,pos,after,g⟩ ρ H K:=by
 refine a0G _ (fun m w a hok hx hsim=>⟨.bool b,?_,b1H⟩) h
 obtain ⟨h1,h2⟩:=b7L hok ht hp hb (hx x) (hx y) .eql (.inl rfl) x y
 simp [execOp,h1,h2]
theorem c5g{x y:Operand}{t t':TypeId}{b:Bool}(ht:Nat.blt t E.n=true)(hp:a3P (ρ x)=true)(hb:eqA E 8 t (ρ x) (ρ y)=some b)(h:K (.bool (!b)) H) :
  a0z E ⟨d,.binOp .neq t x y t',ty,pos,after,g⟩ ρ H K:=by
 refine a0G _ (fun m w a hok hx hsim=>⟨.bool (!b),?_,b1H⟩) h
 obtain ⟨h1,h2⟩:=b7L hok ht hp hb (hx x) (hx y) .neq (.inr rfl) x y
 simp [execOp,h1,h2]
def notNil:AV->Bool
 | .fp _|.ptr _ _|.pe _ _ _=>true
 | _=>false
theorem a3R{x:Operand}(hn:notNil (ρ x)=true)(h:K (ρ x) H):a0z E ⟨d,.nilCheck x,ty,pos,after,g⟩ ρ H K:=by
 refine a0G _ (fun m w a hok hx hsim=>⟨a.eval x,?_,hx x⟩) h
 have h1:=hx x
 have:∃ad,a.eval x=.pointer (some ad):=by
  cases hq:ρ x<;>rw [hq] at hn h1<;>simp [notNil] at hn<;>simp only [Env.Rel,Abs.Rel] at h1
  ·obtain ⟨ad,_,h,_⟩:=h1;exact ⟨ad,h⟩
  ·obtain ⟨ad,h,_⟩:=h1;exact ⟨ad,h⟩
  ·obtain ⟨ad,h,_⟩:=h1;exact ⟨ad,h⟩
 obtain ⟨ad,had⟩:=this
 simp [execOp,had]
/-! len, min, max, extract -/
def c5w:AV->Option Nat
 | .nils=>some 0
 | .sl _ es=>some es.length
 | .own _ _ n=>some n
 | _=>none
theorem b9o{m:Mu}{w:World}{x:AV}{v:Value}{n:Nat}(hl:c5w x=some n)(hx:E.Rel m w x v):∃A c,v=.slice A n c:=by
 cases x<;>simp [c5w] at hl<;>simp only [Env.Rel,Abs.Rel] at hx
 ·subst hl;exact ⟨_,_,hx⟩
 ·subst hl;obtain ⟨A,c,vs,h,_⟩:=hx;exact ⟨_,_,h⟩
 ·subst hl;obtain ⟨A,c,h,_⟩:=hx;exact ⟨_,_,h⟩
theorem a8f{x:Operand}{t e:TypeId}{n:Nat}(ht:Nat.blt t E.n=true)(hk:(E.ti t).k=.sl e)(hl:c5w (ρ x)=some n)(h:K (.int .i64 n) H) :
  a0z E ⟨d,.call ⟨.builtin .len,#[x],#[t]⟩,ty,pos,after,g⟩ ρ H K:=by
 refine a0G _ (fun m w a hok hx hsim=>⟨.int .i64 n,?_,a3v⟩) h
 obtain ⟨A,c,h1⟩:=b9o hl (hx x)
 simp [execOp,resolve,invoke,builtin,Builtin.len_,run_underlying (a3z hok ht hk),h1,goInt]
theorem b4R{x:Operand}{t:TypeId}{l:List UInt8}(ht:Nat.blt t E.n=true)(hk:(E.ti t).k=.str)(hl:ρ x=.str l)(h:K (.int .i64 l.length) H) :
  a0z E ⟨d,.call ⟨.builtin .len,#[x],#[t]⟩,ty,pos,after,g⟩ ρ H K:=by
 refine a0G _ (fun m w a hok hx hsim=>⟨.int .i64 l.length,?_,a3v⟩) h
 have hxx:=hx x
 rw [hl] at hxx
 have hsz:(ByteArray.mk l.toArray).size=l.length:=rfl
 simp [execOp,resolve,invoke,builtin,Builtin.len_,run_underlying (a8O hok ht hk),a6u hxx,goInt,hsz]
theorem a4J{x:Operand}{i:Nat}{vs:List AV}{r:AV}(hx:ρ x=.tup vs)(hr:vs[i]?=some r)(h:K r H):a0z E ⟨d,.extract x i,ty,pos,after,g⟩ ρ H K:=by
 refine a0G r (fun m w a hok hrel hsim=>?_) h
 have h1:=hrel x
 rw [hx] at h1
 simp only [Env.Rel,Abs.Rel] at h1
 obtain ⟨us,h2,h3⟩:=h1
 obtain ⟨u,h4,h5⟩:=h3.get i hr
 exact ⟨u,by simp [execOp,h2,Instr.extract,h4],h5⟩
theorem b8f{x y:Operand}{t t':TypeId}{k:IntKind}{a b:Int}(hx:ρ x=.int k a)(hy:ρ y=.int k b)(h:K (.int k (min a b)) H) :
  a0z E ⟨d,.call ⟨.builtin .min,#[x,y],#[t,t']⟩,ty,pos,after,g⟩ ρ H K:=by
 refine a0G _ (fun m w ac hok hr hsim=>⟨.int k (min a b),?_,a3v⟩) h
 have h1:=hr x;have h2:=hr y
 rw [hx] at h1;rw [hy] at h2
 have e:min a b=if b<a then b else a:=by simp only [Int.min_def];split<;>split<;>omega
 simp [execOp,resolve,invoke,builtin,Builtin.min_,Builtin.min2,a1m h1,a1m h2,e]
theorem c5f{x y:Operand}{t t':TypeId}{k:IntKind}{a b:Int}(hx:ρ x=.int k a)(hy:ρ y=.int k b)(h:K (.int k (max a b)) H) :
  a0z E ⟨d,.call ⟨.builtin .max,#[x,y],#[t,t']⟩,ty,pos,after,g⟩ ρ H K:=by
 refine a0G _ (fun m w ac hok hr hsim=>⟨.int k (max a b),?_,a3v⟩) h
 have h1:=hr x;have h2:=hr y
 rw [hx] at h1;rw [hy] at h2
 have e:max a b=if a<b then b else a:=by simp only [Int.max_def];split<;>split<;>omega
 simp [execOp,resolve,invoke,builtin,Builtin.max_,Builtin.max2,a1m h1,a1m h2,e]
/-! Elements of slices and of strings -/
theorem a1k{vs:List Value}{k:Nat}(hk:∀u∈vs,u.cells.size=k):(flat vs).length=vs.length*k:=by
 induction vs with
 | nil=>simp [flat]
 | cons v vs ih =>
  have h1:v.cells.toList.length=k:=by simpa using hk v (by simp)
  have h2:=ih fun u hu=>hk u (by simp [hu])
  simp only [flat,List.flatMap_cons,List.length_append,h1,List.length_cons] at h2 ⊢
  rw [h2,Nat.add_mul];omega
theorem a4k{vs:List Value}{k:Nat}(hk:∀u∈vs,u.cells.size=k)(n:Nat):flat (vs.drop n)=(flat vs).drop (n*k):=by
 induction n generalizing vs with
 | zero=>simp
 | succ n ih =>
  cases vs with
  | nil=>simp [flat]
  | cons v vs =>
   have h1:v.cells.toList.length=k:=by simpa using hk v (by simp)
   have h2:=ih (vs:=vs) fun u hu=>hk u (by simp [hu])
   have e1:flat (v::vs)=v.cells.toList++flat vs:=by simp [flat]
   have e2:(n+1)*k=v.cells.toList.length+n*k:=by rw [h1,Nat.add_mul];omega
   rw [List.drop_succ_cons,h2,e1,e2,List.drop_length_add_append]
theorem a2B{vs:List Value}{k:Nat}(hk:∀u∈vs,u.cells.size=k)(n:Nat):flat (vs.take n)=(flat vs).take (n*k):=by
 induction n generalizing vs with
 | zero=>simp [flat]
 | succ n ih =>
  cases vs with
  | nil=>simp [flat]
  | cons v vs =>
   have h1:v.cells.toList.length=k:=by simpa using hk v (by simp)
   have h2:=ih (vs:=vs) fun u hu=>hk u (by simp [hu])
   have e1:∀vs,flat (v::vs)=v.cells.toList++flat vs:=fun vs=>by simp [flat]
   have e2:(n+1)*k=v.cells.toList.length+n*k:=by rw [h1,Nat.add_mul];omega
   rw [List.take_succ_cons,e1,e1,e2,List.take_length_add_append,h2]
theorem a5a(us vs:List Value):flat (us++vs)=flat us++flat vs:=by simp [flat]
theorem add_add(a:Addr)(i j:Nat):(a.add i).add j=a.add (i+j):=by
 unfold Addr.add;by_cases h1:i=0<;>by_cases h2:j=0<;>simp [h1,h2,Nat.add_assoc]
theorem a2d(a:Addr)(i:Nat):(a.add i).block=a.block:=by unfold Addr.add;split<;>rfl
theorem b1A{sz:Cx}{m:Mu}{w:World}{A:Option Addr}{es:List AV}{vs:List Value}{k:Nat}(h0:0<k)(hl:0<es.length)(hr:RelL sz m w es vs)(hk:∀u∈vs,u.cells.size=k)(hf:Fz sz m w A (flat vs)) :
  ∃a,A=some a/\a.block<w.heap.size/\.blk a.block ∉ m/\¬ sz.X a.block/\∀(j:Nat) (u:Value),(flat vs)[j]?=some u->w.cell? (a.add j)=some u:=by
 apply hf
 intro he
 have hfl:=a1k hk
 rw [he,hr.length] at hfl
 have:0<es.length*k:=Nat.mul_pos hl h0
 simp at hfl
 omega
theorem a8e{x i:Operand}{t e:TypeId}{k:Nat}{es:List AV}{kk:IntKind}{n:Int}{j:Nat}{y:AV}(ht:Nat.blt t E.n=true)(htk:(E.ti t).k=.sl e)(he:Nat.blt e E.n=true)
  (hx:ρ x=.sl k es) (hi:ρ i=.int kk n) (hk:Nat.beq (E.ti e).sz k=true) (hk0:Nat.blt 0 k=true) (hy:es[j]?=some y) (hn:n=(j:Int)) (hkn:known y=true) (h:K (.fp (a0Z y)) H) :
  a0z E ⟨d,.indexAddr t x i,ty,pos,after,g⟩ ρ H K:=by
 refine a0G _ (fun m w a hok hr hsim=>?_) h
 have h1:=hr x;have h2:=hr i
 rw [hx] at h1;rw [hi] at h2
 simp only [Env.Rel,Abs.Rel] at h1
 obtain ⟨A,c,vs,h3,h4,h5,h6,h7,h8⟩:=h1
 have hkk:(E.ti e).sz=k:=Nat.eq_of_beq_eq_true hk
 have hj:j<es.length:=(List.getElem?_eq_some_iff.1 hy).1
 obtain ⟨u,hu,hru⟩:=h6.get j hy
 have hcr:=a2z hru hkn
 subst hn
 have hin:(0:Int)<=(j:Int)/\(j:Int)<(es.length:Int):=by omega
 obtain ⟨ad,rfl,h10,h11,hX,h12⟩:=b1A (by simpa using hk0) (by omega) h6 h7 h8
 refine ⟨.pointer (some (ad.add (j*k))),?_,?_⟩
 ·simp only [execOp,Instr.indexAt,Sem.run_bind,a1m h2,asIntOf,Sem.run_pure,Result.andThen_ok,run_underlying (a3z hok ht htk),h3,hin.1,hin.2,and_self,if_true,a1V hok he,hkk,Int.toNat_natCast]
 show Abs.Rel _ _ _ _ _
 simp only [Abs.Rel]
 refine ⟨_,u.cells.toList,rfl,hcr,fun hne=>?_⟩
 have hks:u.cells.size=k:=h7 u (List.mem_of_getElem? hu)
 refine ⟨_,rfl,by rw [a2d];exact h10,by rw [a2d];exact h11,by rw [a2d];exact hX,fun q z hz=>?_⟩
 rw [add_add]
 refine h12 _ z ?_
 rw [a9d h7 hu q ?_,hz]
 have:=(List.getElem?_eq_some_iff.1 hz).1
 simpa [hks] using this
theorem a3m{x i:Operand}{t e e':TypeId}{id lo len:Nat}{es:List AV}{kk:IntKind}{n:Int}{j:Nat}(ht:Nat.blt t E.n=true)(htk:(E.ti t).k=.sl e)(he:Nat.blt e E.n=true)(he':Nat.blt e' E.n=true)
  (hx:ρ x=.own id lo len) (hi:ρ i=.int kk n) (ho:H[id]?=some (some (.arr es e'))) (hk:Nat.beq (E.ti e).sz (E.ti e').sz=true) (hn:n=(j:Int)) (hj:j<len) (h:K (.pe id (lo+j) 0) H) :
  a0z E ⟨d,.indexAddr t x i,ty,pos,after,g⟩ ρ H K:=by
 refine a0G _ (fun m w a hok hr hsim=>?_) h
 have h1:=hr x;have h2:=hr i
 rw [hx] at h1;rw [hi] at h2
 simp only [Env.Rel,Abs.Rel] at h1
 obtain ⟨A,c,h3,h4,h5,h6,h7,h8⟩:=h1
 have hkk:(E.ti e).sz=(E.ti e').sz:=Nat.eq_of_beq_eq_true hk
 subst hn
 have hin:(0:Int)<=(j:Int)/\(j:Int)<(len:Int):=by omega
 obtain ⟨q,hq,hob⟩:=hsim.live id _ ho
 cases q with
 | dead=>exact hob.elim
 | nil=>have:=h7 hq;omega
 | blk b =>
  obtain ⟨e2,k2,h9,h10,h11⟩:=h8 b hq
  have hA:=h11 (.inl (by omega))
  subst hA
  have hsz2:E.cx.sz e'=(E.ti e').sz:=by obtain ⟨_,_,_,_,_,_,_,_,_,h⟩:=a0Q hok he';exact h
  have hee:e2=e':=by
   obtain ⟨us,vs,h12,_⟩:=hob
   unfold World.shape? at h9
   rw [h12] at h9
   simp at h9
   exact h9.1.symm
  subst hee
  refine ⟨.pointer (some ((⟨b,lo*E.cx.sz e2,none⟩:Addr).add (j*(E.ti e2).sz))),?_,?_⟩
  ·simp only [execOp,Instr.indexAt,Sem.run_bind,a1m h2,asIntOf,Sem.run_pure,Result.andThen_ok,run_underlying (a3z hok ht htk),h3,hin.1,hin.2,and_self,if_true,a1V hok he,hkk,Int.toNat_natCast]
  show Abs.Rel _ _ _ _ _
  simp only [Abs.Rel]
  refine ⟨_,rfl,h6,fun b' hb'=>?_⟩
  rw [hq] at hb'
  cases hb'
  refine ⟨e2,k2,h9,?_⟩
  rw [hsz2]
  have:∀o q,(⟨b,o,none⟩:Addr).add q=⟨b,o+q,none⟩:=fun o q=>by unfold Addr.add;split<;>simp_all
  rw [this,<- Nat.add_mul,Nat.add_zero]
theorem a6P{x i:Operand}{t:TypeId}{l:List UInt8}{kk:IntKind}{n:Int}{j:Nat}{c:UInt8}(ht:Nat.blt t E.n=true)(htk:(E.ti t).k=.str)
  (hx:ρ x=.str l) (hi:ρ i=.int kk n) (hy:l[j]?=some c) (hn:n=(j:Int)) (h:K (.int .u8 c.toNat) H):a0z E ⟨d,.index t x i,ty,pos,after,g⟩ ρ H K:=by
 refine a0G _ (fun m w a hok hr hsim=>⟨.int .u8 c.toNat,?_,a3v⟩) h
 have h1:=hr x;have h2:=hr i
 rw [hx] at h1;rw [hi] at h2
 subst hn
 have hj:j<l.length:=(List.getElem?_eq_some_iff.1 hy).1
 have hb:(ByteArray.mk l.toArray)[j]?=some c:=by
  have e:(ByteArray.mk l.toArray)[j]?=l[j]?:=by
   rw [getElem?_def,getElem?_def]
   rfl
  rw [e,hy]
 simp only [execOp,Instr.index,Sem.run_bind,a1m h2,asIntOf,Sem.run_pure,Result.andThen_ok,run_underlying (a8O hok ht htk),a6u h1]
 simp [hb]
end
end Go.Abs
namespace Go.Abs
section
variable{E:Env}{N n0:Nat}{Q:Exit->St->Prop}{s:St}{ρ:Operand->AV}{H:Hp}{K:AV->Hp->Prop}
variable{d:Option Tmp}{ty:TypeId}{pos:String}{after:Array Edge}{g:Option (Nat × Bool)}
def Bnd(ρ:Operand->AV)(o:Option Operand)(dflt j:Nat):Prop :=
 match o with
 | none=>j=dflt
 | some x=>∃kk n,ρ x=.int kk n/\n=(j:Int)
theorem a1u{dflt:Nat}:Bnd ρ none dflt dflt:=rfl
theorem a0q{x:Operand}{dflt j:Nat}{kk:IntKind}{n:Int}(h:ρ x=.int kk n)(hn:n=(j:Int)):Bnd ρ (some x) dflt j:=⟨kk,n,h,hn⟩
theorem a6x{m:Mu}{w:World}{a:Act}(hr:∀x,E.Rel m w (ρ x) (a.eval x)){lo hi:Option Operand}{len cap l h:Nat}(isSl:Bool)(hl:Bnd ρ lo 0 l)(hh:Bnd ρ hi len h)(hlh:l<=h)(hle:h<=len)(hc:len<=cap) :
  (Instr.sliceBounds isSl len cap (lo.map a.eval) (hi.map a.eval) none).run E.P w=.ok (l,h,cap) w:=by
 have key:∀(o:Option Operand) (dflt j top:Nat) (cd:BoundsCode),Bnd ρ o dflt j->j<=top ->
   (match o.map a.eval with|some v=>Instr.sliceBound v top cd|none=>pure dflt:Sem Nat).run E.P w=.ok j w:=by
  intro o dflt j top cd hb hj
  cases o with
  | none=>simp only [Bnd] at hb;subst hb;rfl
  | some x =>
   obtain ⟨kk,n,h1,h2⟩:=hb
   have h3:=hr x
   rw [h1] at h3
   subst h2
   have hin:(0:Int)<=(j:Int)/\(j:Int)<=(top:Int):=by omega
   simp only [Option.map_some,Instr.sliceBound,Sem.run_bind,a1m h3,asIntOf,Sem.run_pure,Result.andThen_ok,hin.1,hin.2,and_self,if_true,Int.toNat_natCast]
 have k1:=key hi len h cap (if isSl then .sliceAcap else .sliceAlen) hh (by omega)
 have k2:=key lo 0 l h .sliceB hl hlh
 unfold Instr.sliceBounds
 cases hi with
 | none =>
  simp only [Option.map_none,Sem.run_pure] at k1
  cases k1
  cases lo with
  | none=>simp only [Option.map_none,Sem.run_pure] at k2;cases k2;simp
  | some y=>simp only [Option.map_some] at k2;simp [k2]
 | some x =>
  simp only [Option.map_some] at k1
  cases lo with
  | none=>simp only [Option.map_none,Sem.run_pure] at k2;cases k2;simp [k1]
  | some y=>simp only [Option.map_some] at k2;simp [k1,k2]
theorem b2r{x:Operand}{lo hi:Option Operand}{t e:TypeId}{k:Nat}{es:List AV}{l h:Nat}(ht:Nat.blt t E.n=true)(htk:(E.ti t).k=.sl e)(he:Nat.blt e E.n=true)(hx:ρ x=.sl k es)
  (hk:Nat.beq (E.ti e).sz k=true) (hl:Bnd ρ lo 0 l) (hh:Bnd ρ hi es.length h) (hlh:l<=h) (hle:h<=es.length) (hK:K (.sl k ((es.take h).drop l)) H) :
  a0z E ⟨d,.slice t x lo hi none,ty,pos,after,g⟩ ρ H K:=by
 refine a0G _ (fun m w a hok hr hsim=>?_) hK
 have h1:=hr x
 rw [hx] at h1
 simp only [Env.Rel,Abs.Rel] at h1
 obtain ⟨A,c,vs,h3,h4,h5,h6,h7,h8⟩:=h1
 have hkk:(E.ti e).sz=k:=Nat.eq_of_beq_eq_true hk
 have hb:=a6x hr (lo:=lo) (hi:=hi) (cap:=c) true hl hh hlh hle h4
 refine ⟨.slice (if c=l then A else A.map (·.add (l*k))) (h - l) (c - l),?_,?_⟩
 ·simp only [execOp,Instr.sliceAt,Instr.slice,Sem.run_bind,run_underlying (a3z hok ht htk),Result.andThen_ok,h3,Option.map_none,hb,a1V hok he,hkk,Sem.run_pure]
 show Abs.Rel _ _ _ _ _
 simp only [Abs.Rel]
 have hlen:((es.take h).drop l).length=h - l:=by simp;omega
 have hsz:∀u∈(vs.take h).drop l,u.cells.size=k:=fun u hu=>h7 u (List.mem_of_mem_take (List.mem_of_mem_drop hu))
 refine ⟨_,c - l,(vs.take h).drop l,by rw [hlen],by omega,by omega,(h6.take h).drop l,hsz,fun hne=>?_⟩
 have hfl:=a1k hsz
 have hpos:0<h - l/\0<k:=by
  rcases Nat.eq_zero_or_pos (h - l) with h0|h0
  ·exfalso;apply hne;apply List.eq_nil_of_length_eq_zero;rw [hfl,List.length_drop,List.length_take,h6.length]
   rw [show min h es.length - l=0 by omega];simp
  rcases Nat.eq_zero_or_pos k with h1|h1
  ·exfalso;apply hne;apply List.eq_nil_of_length_eq_zero;rw [hfl,h1];simp
  ·exact ⟨h0,h1⟩
 obtain ⟨ad,rfl,h10,h11,hX,h12⟩:=b1A hpos.2 (by omega) h6 h7 h8
 rw [if_neg (by omega)]
 refine ⟨_,rfl,by rw [a2d];exact h10,by rw [a2d];exact h11,by rw [a2d];exact hX,fun j u hu=>?_⟩
 rw [add_add]
 apply h12
 rw [a4k (fun u hu=>h7 u (List.mem_of_mem_take hu)),a2B h7,List.getElem?_drop,List.getElem?_take] at hu
 split at hu
 ·exact hu
 ·cases hu
theorem b0W{x:Operand}{lo hi:Option Operand}{t e:TypeId}(ht:Nat.blt t E.n=true)(htk:(E.ti t).k=.sl e)(he:Nat.blt e E.n=true)(hx:ρ x=.nils)
  (hl:Bnd ρ lo 0 0) (hh:Bnd ρ hi 0 0) (hK:K .nils H):a0z E ⟨d,.slice t x lo hi none,ty,pos,after,g⟩ ρ H K:=by
 refine a0G _ (fun m w a hok hr hsim=>?_) hK
 have h1:=hr x
 rw [hx] at h1
 simp only [Env.Rel,Abs.Rel] at h1
 have hb:=a6x hr (lo:=lo) (hi:=hi) (cap:=0) true hl hh (Nat.le_refl 0) (Nat.le_refl 0) (Nat.le_refl 0)
 refine ⟨.slice none 0 0,?_,by show Abs.Rel _ _ _ _ _;simp [Abs.Rel]⟩
 simp only [execOp,Instr.sliceAt,Instr.slice,Sem.run_bind,run_underlying (a3z hok ht htk),Result.andThen_ok,h1,Option.map_none,hb,a1V hok he,Sem.run_pure,if_true,Nat.sub_zero]
theorem a6Q{x:Operand}{lo hi:Option Operand}{t e e':TypeId}{id o n:Nat}{es:List AV}{l h:Nat}(ht:Nat.blt t E.n=true)(htk:(E.ti t).k=.sl e)(he:Nat.blt e E.n=true)(he':Nat.blt e' E.n=true)
  (hx:ρ x=.own id o n) (ho:H[id]?=some (some (.arr es e'))) (hk:Nat.beq (E.ti e).sz (E.ti e').sz=true) (hl:Bnd ρ lo 0 l) (hh:Bnd ρ hi n h) (hlh:l<=h) (hle:h<=n) (hK:K (.own id (o+l) (h - l)) H) :
  a0z E ⟨d,.slice t x lo hi none,ty,pos,after,g⟩ ρ H K:=by
 refine a0G _ (fun m w a hok hr hsim=>?_) hK
 have h1:=hr x
 rw [hx] at h1
 simp only [Env.Rel,Abs.Rel] at h1
 obtain ⟨A,c,h3,h4,h5,h6,h7,h8⟩:=h1
 have hkk:(E.ti e).sz=(E.ti e').sz:=Nat.eq_of_beq_eq_true hk
 have hsz2:E.cx.sz e'=(E.ti e').sz:=by obtain ⟨_,_,_,_,_,_,_,_,_,h⟩:=a0Q hok he';exact h
 have hb:=a6x hr (lo:=lo) (hi:=hi) (cap:=c) true hl hh hlh hle h4
 refine ⟨.slice (if c=l then A else A.map (·.add (l*(E.ti e).sz))) (h - l) (c - l),?_,?_⟩
 ·simp only [execOp,Instr.sliceAt,Instr.slice,Sem.run_bind,run_underlying (a3z hok ht htk),Result.andThen_ok,h3,Option.map_none,hb,a1V hok he,Sem.run_pure]
 show Abs.Rel _ _ _ _ _
 simp only [Abs.Rel]
 refine ⟨_,_,rfl,by omega,by omega,h6,fun hq=>?_,fun b hq=>?_⟩
 ·obtain ⟨hA,hc⟩:=h7 hq
  subst hA
  refine ⟨by split<;>rfl,by omega⟩
 obtain ⟨e2,k2,h9,h10,h11⟩:=h8 b hq
 have hee:e2=e':=by
  obtain ⟨q,hq2,hob⟩:=hsim.live id _ ho
  rw [hq] at hq2;cases hq2
  obtain ⟨us,vs,h12,_⟩:=hob
  unfold World.shape? at h9
  rw [h12] at h9
  simp at h9
  exact h9.1.symm
 subst hee
 refine ⟨e2,k2,h9,by rw [<- h10];congr 1;omega,fun hpos=>?_⟩
 have hcases:(0<c - l)\/(l=0/\o=0):=by omega
 have hA:A=some ⟨b,o*E.cx.sz e2,none⟩:=h11 (by omega)
 by_cases hcl:c=l
 ·obtain ⟨rfl,rfl⟩:l=0/\o=0:=by omega
  rw [if_pos hcl,hA]
 rw [if_neg hcl,hA]
 have:∀o q,(⟨b,o,none⟩:Addr).add q=⟨b,o+q,none⟩:=fun o q=>by unfold Addr.add;split<;>simp_all
 simp only [Option.map_some,this,hkk,hsz2,Nat.add_mul]
/-! Stores -/
def a5m:AV->Bool
 | .any|.agg _|.tup _=>false
 | _=>true
theorem c2l{sz:Cx}{m:Mu}{w:World}{x:AV}{v:Value}(h:Rel sz m w x v)(h1:a5m x=true):v.oneCell'=true:=by
 cases x<;>simp [a5m] at h1<;>simp only [Rel] at h <;>
  first|(subst h;rfl)|(obtain ⟨_,rfl,_⟩:=h;rfl)|(obtain ⟨_,_,rfl,_⟩:=h;rfl)|(obtain ⟨_,_,_,rfl,_⟩:=h;rfl)
theorem a2w{sz:Cx}{m:Mu}{w:World}:∀{xs:List AV} {vs:List Value},RelL sz m w xs vs->xs.all a5m=true->∀v∈vs,v.oneCell'=true
 | [],_,h,_,v,hv=>by rw [a1l] at h;subst h;cases hv
 | x::xs,_,h,h1,v,hv=>by
  rw [a0o] at h
  obtain ⟨u,r,rfl,h2,h3⟩:=h
  simp only [List.all_cons,Bool.and_eq_true] at h1
  simp only [List.mem_cons] at hv
  rcases hv with rfl|hv
  ·exact c2l h2 h1.1
  ·exact a2w h3 h1.2 v hv
def spl(cs:List AV)(off:Nat)(new:List AV):List AV:=cs.take off++new++cs.drop (off+new.length)
theorem a6N{t:TypeId}(hok:E.Ok)(ht:Nat.blt t E.n=true){w:World}{b off:Nat}{u:TypeId}{cur:Array Value}{v:Value}{vs:List Value}(hv:v.cells.toList=vs)(hl:vs.length=(E.ti t).sz)
  (hb:w.heap[b]?=some (.cells cur u (0,0))) (hfit:off+vs.length<=cur.size) (h1:∀v∈vs,v.oneCell'=true) :
  (storeVar t ⟨b,off,none⟩ v).run E.P w=.ok () (w.setRow b (cur.toList.take off++vs++cur.toList.drop (off+vs.length)).toArray):=by
 unfold storeVar
 have hsz:v.cells.size=(E.ti t).sz:=by rw [<- hl,<- hv];simp
 have hst:=run_storeCells_at E.P b off u vs 0 cur w hb (by simpa using hfit) h1
 simp only [Sem.run_bind,a1V hok ht,Result.andThen_ok,hsz,ne_eq,not_true,if_false]
 rw [hv]
 simpa using hst
theorem b4t{vs:List Value}{i:Nat}{u:Value}(hu:vs[i]?=some u):flat vs=flat (vs.take i)++u.cells.toList++flat (vs.drop (i+1)):=by
 have hi:i<vs.length:=(List.getElem?_eq_some_iff.1 hu).1
 have hget:vs[i]=u:=(List.getElem?_eq_some_iff.1 hu).2
 have h1:vs=vs.take i++(u::vs.drop (i+1)):=by
  rw [<- hget,<- List.drop_eq_getElem_cons hi,List.take_append_drop]
 conv=>lhs;rw [h1]
 simp [flat]
theorem a3n{t:TypeId}{p x:Operand}{id off:Nat}{cs:List AV}{e:TypeId}(ht:Nat.blt t E.n=true)(hp:ρ p=.ptr id off)(ho:H[id]?=some (some (.cells cs e)))
  (hl:Nat.beq (a0Z (ρ x)).length (E.ti t).sz=true) (hone:(a0Z (ρ x)).all a5m=true) (hkn:known (ρ x)=true) (hfit:Nat.ble (off+(a0Z (ρ x)).length) cs.length=true)
  (h:K (.tup []) (H.set id (some (.cells (spl cs off (a0Z (ρ x))) e)))):a0z E ⟨d,.store t p x,ty,pos,after,g⟩ ρ H K:=by
 refine step_skip (fun m w a hok hr hsim=>?_)
 have h1:=hr p;have h2:=hr x
 rw [hp] at h1
 simp only [Env.Rel,Abs.Rel] at h1
 obtain ⟨ad,h3,h4,h5⟩:=h1
 obtain ⟨q,hq,hob⟩:=hsim.live id _ ho
 cases q with
 | dead=>exact hob.elim
 | nil=>exact hob.elim
 | blk b =>
  obtain ⟨us,h6,h7⟩:=hob
  have hcr:=a2z h2 hkn
  have hvl:=hcr.length
  have hul:=h7.length
  have hle:off+(a0Z (ρ x)).length<=cs.length:=Nat.le_of_ble_eq_true hfit
  have hus:us.size=cs.length:=by simpa using hul
  have hrun:=a6N (E:=E) hok ht (w:=w) (b:=b) (off:=off) (v:=a.eval x) rfl (by rw [hvl];exact Nat.eq_of_beq_eq_true hl) h6 (by rw [hvl];omega) (a2w hcr hone)
  have hmem:MS.blk b∈m:=List.mem_of_getElem? hq
  have hlt:b<w.heap.size:=(Array.getElem?_eq_some_iff.1 h6).1
  have hext:Ext m w m (w.setRow b (us.toList.take off++(a.eval x).cells.toList++us.toList.drop (off+(a.eval x).cells.toList.length)).toArray) :=
   Ext.owned hmem rfl rfl rfl (by simp) (fun c hc=>setRow_other w b c _ (by omega)) (fun s hs=>by
    unfold World.shape? at hs ⊢
    rw [h6] at hs
    rw [setRow_heap w b us _ e _ h6]
    simp at hs
    subst hs
    simp only [Option.some.injEq,Prod.mk.injEq,true_and,List.size_toArray,List.length_append,List.length_take,List.length_drop,Array.length_toList,hvl]
    omega)
  refine ⟨_,m,_,?_,hext,hsim.owned (ao:=.cells (spl cs off (a0Z (ρ x))) e) hext hq (fun c hc=>setRow_other w b c _ (by omega)) ⟨_,setRow_heap w b us _ e _ h6,?_⟩,h⟩
  ·rw [h5 b hq] at h3
   simp only [execOp,Instr.storeAt,h3,Instr.sureAddr,Sem.run_bind,Sem.run_pure,Result.andThen_ok,hrun]
  have e1:=(h7.take off).append hcr
  have e2:=e1.append (h7.drop (off+(a0Z (ρ x)).length))
  have e3:=RelL.ext hext _ e2
  simpa [spl,hvl] using e3
def c5y(off:Nat)(x y:AV):Option AV :=
 match y with
 | .agg cs=>if off+(a0Z x).length<=cs.length then some (.agg (spl cs off (a0Z x))) else none
 | _=>if off=0 then (if a5m x then some x else none) else none
theorem a3h{t:TypeId}{p x:Operand}{id i off:Nat}{es:List AV}{e:TypeId}{y z:AV}(ht:Nat.blt t E.n=true)(hte:Nat.blt e E.n=true)(hp:ρ p=.pe id i off)(ho:H[id]?=some (some (.arr es e)))
  (hy:es[i]?=some y) (hky:known y=true) (hz:c5y off (ρ x) y=some z)
  (hl:Nat.beq (a0Z (ρ x)).length (E.ti t).sz=true) (hone:(a0Z (ρ x)).all a5m=true) (hkn:known (ρ x)=true)
  (h:K (.tup []) (H.set id (some (.arr (es.set i z) e)))):a0z E ⟨d,.store t p x,ty,pos,after,g⟩ ρ H K:=by
 refine step_skip (fun m w a hok hr hsim=>?_)
 have h1:=hr p;have h2:=hr x
 rw [hp] at h1
 simp only [Env.Rel,Abs.Rel] at h1
 obtain ⟨ad,h3,h4,h5⟩:=h1
 obtain ⟨q,hq,hob⟩:=hsim.live id _ ho
 cases q with
 | dead=>exact hob.elim
 | nil=>subst hob;simp at hy
 | blk b =>
  obtain ⟨us,vs,h6,h7,h8,h9⟩:=hob
  obtain ⟨e2,k2,h10,h11⟩:=h5 b hq
  have hee:e2=e:=by
   unfold World.shape? at h10
   rw [h6] at h10
   simp at h10
   exact h10.1.symm
  subst hee
  obtain ⟨u,hu,hru⟩:=h7.get i hy
  have hcy:=a2z hru hky
  have hcr:=a2z h2 hkn
  have hvl:=hcr.length
  have hus:u.cells.size=E.cx.sz e2:=h8 u (List.mem_of_getElem? hu)
  have hcyl:(a0Z y).length=E.cx.sz e2:=by rw [<- hcy.length];simpa using hus
  have hfl:=a1k h8
  have hil:i<vs.length:=(List.getElem?_eq_some_iff.1 hu).1
  -- where the new cells lie
  have hoff:off+(a0Z (ρ x)).length<=E.cx.sz e2:=by
   rw [<- hcyl]
   unfold c5y at hz
   split at hz
   ·split at hz
    ·assumption
    ·cases hz
   split at hz
   ·rename_i h0
    split at hz
    ·rename_i ho1
     subst h0
     have:a0Z (ρ x)=[ρ x]:=by cases hx:ρ x<;>simp_all [a5m,a0Z]
     have:a0Z y=[y]:=by cases y<;>simp_all [a0Z]
     simp_all
    ·cases hz
   ·cases hz
  have hle:i*E.cx.sz e2+E.cx.sz e2<=(flat vs).length:=by
   rw [hfl,show i*E.cx.sz e2+E.cx.sz e2=(i+1)*E.cx.sz e2 by rw [Nat.add_mul];omega]
   exact Nat.mul_le_mul_right _ hil
  have hfu:(flat vs).length<=us.size:=by
   have h1:=congrArg List.length h9
   rw [List.length_take] at h1
   have h2:us.toList.length=us.size:=by simp
   omega
  have hrun:=a6N (E:=E) hok ht (w:=w) (b:=b) (off:=i*E.cx.sz e2+off) (v:=a.eval x) rfl (by rw [hvl];exact Nat.eq_of_beq_eq_true hl) h6 (by rw [hvl];omega) (a2w hcr hone)
  have hmem:MS.blk b∈m:=List.mem_of_getElem? hq
  have hext:Ext m w m (w.setRow b (us.toList.take (i*E.cx.sz e2+off)++(a.eval x).cells.toList++us.toList.drop (i*E.cx.sz e2+off+(a.eval x).cells.toList.length)).toArray) :=
   Ext.owned hmem rfl rfl rfl (by simp) (fun c hc=>setRow_other w b c _ (by omega)) (fun s hs=>by
    unfold World.shape? at hs ⊢
    rw [h6] at hs
    rw [setRow_heap w b us _ e2 _ h6]
    simp at hs
    subst hs
    simp only [Option.some.injEq,Prod.mk.injEq,true_and,List.size_toArray,List.length_append,List.length_take,List.length_drop,Array.length_toList,hvl]
    omega)
  -- the new element's value
  obtain ⟨zu,hzu,hzc⟩:∃zu:Value,E.Rel m w z zu/\zu.cells.toList=u.cells.toList.take off++(a.eval x).cells.toList++u.cells.toList.drop (off+(a.eval x).cells.toList.length):=by
   unfold c5y at hz
   split at hz
   ·split at hz
    ·cases hz
     refine ⟨.agg (u.cells.toList.take off++(a.eval x).cells.toList++u.cells.toList.drop (off+(a.eval x).cells.toList.length)).toArray,?_,by simp [Value.cells]⟩
     show Abs.Rel _ _ _ _ _
     simp only [Abs.Rel]
     refine ⟨_,rfl,?_⟩
     have hcy':E.RelL m w _ u.cells.toList:=hcy
     simp only [a0Z] at hcy'
     have e2:=((hcy'.take off).append hcr).append (hcy'.drop (off+(a0Z (ρ x)).length))
     simpa [spl,hvl] using e2
    ·cases hz
   split at hz
   ·rename_i h0
    split at hz
    ·rename_i ho1
     cases hz
     subst h0
     refine ⟨a.eval x,h2,?_⟩
     have e1:a0Z y=[y]:=by cases y<;>simp_all [a0Z]
     have e2:u.cells.toList.length=1:=by rw [hcy.length,e1];rfl
     have e3:(a.eval x).cells.toList.length=1:=by
      rw [hvl]
      have:a0Z (ρ x)=[ρ x]:=by cases hx:ρ x<;>simp_all [a5m,a0Z]
      rw [this];rfl
     simp only [List.take_zero,List.nil_append,Nat.zero_add]
     rw [List.drop_eq_nil_of_le (by omega),List.append_nil]
    ·cases hz
   ·cases hz
  refine ⟨_,m,_,?_,hext,hsim.owned (ao:=.arr (es.set i z) e2) hext hq (fun c hc=>setRow_other w b c _ (by omega)) ⟨_,vs.set i zu,setRow_heap w b us _ e2 _ h6,?_,?_,?_⟩,h⟩
  ·rw [h11] at h3
   simp only [execOp,Instr.storeAt,h3,Instr.sureAddr,Sem.run_bind,Sem.run_pure,Result.andThen_ok,hrun]
  ·exact RelL.ext hext _ (h7.set i hzu)
  ·intro q hq'
   rcases List.mem_or_eq_of_mem_set hq' with h|h
   ·exact h8 q h
   subst h
   have:=congrArg List.length hzc
   simp only [List.length_append,List.length_take,List.length_drop,Array.length_toList] at this
   have h3:(a.eval x).cells.toList.length=(a.eval x).cells.size:=by simp
   rw [h3] at hvl
   omega
  have hs1:=b4t hu
  have hs2:flat (vs.set i zu)=flat (vs.take i)++zu.cells.toList++flat (vs.drop (i+1)):=by
   rw [List.set_eq_take_append_cons_drop,if_pos hil]
   simp [flat]
  have hA:(flat (vs.take i)).length=i*E.cx.sz e2:=by
   rw [a1k fun u hu=>h8 u (List.mem_of_mem_take hu),List.length_take,Nat.min_eq_left (by omega)]
  have hU:u.cells.toList.length=E.cx.sz e2:=by simpa using hus
  have hus2:us.toList=flat (vs.take i)++(u.cells.toList++(flat (vs.drop (i+1))++us.toList.drop (flat vs).length)):=by
   have h0:=List.take_append_drop (flat vs).length us.toList
   rw [h9] at h0
   generalize us.toList.drop (flat vs).length=D at h0 ⊢
   rw [hs1] at h0
   rw [<- h0]
   simp [List.append_assoc]
  generalize hR:us.toList.drop (flat vs).length=R at hus2
  have hnew:us.toList.take (i*E.cx.sz e2+off)++(a.eval x).cells.toList++us.toList.drop (i*E.cx.sz e2+off+(a.eval x).cells.toList.length)=flat (vs.set i zu)++R:=by
   rw [hs2,hzc,hus2,<- hA,List.take_length_add_append,Nat.add_assoc,List.drop_length_add_append,List.take_append_of_le_length (by rw [hU];omega),List.drop_append_of_le_length (by rw [hU,hvl];omega)]
   simp [List.append_assoc]
  rw [List.toList_toArray,hnew,List.take_left']
  rfl
end
end Go.Abs
namespace Go.Abs
section
variable{E:Env}{N n0:Nat}{Q:Exit->St->Prop}{s:St}{ρ:Operand->AV}{H:Hp}{K:AV->Hp->Prop}
variable{d:Option Tmp}{ty:TypeId}{pos:String}{after:Array Edge}{g:Option (Nat × Bool)}
theorem b7b{sz:Cx}{m:Mu}{w:World}{H:Hp}(hs:Sim sz m w H){w':World}:Rel sz (m++[.blk w.heap.size]) w' (.ptr H.length 0) (.pointer (some ⟨w.heap.size,0,none⟩)):=by
 simp only [Rel]
 refine ⟨_,rfl,by simp [hs.len],fun b hb=>?_⟩
 rw [List.getElem?_append_right (by rw [hs.len];exact Nat.le_refl _),hs.len] at hb
 simp at hb
 rw [hb]
theorem a2G{e:TypeId}{z:List AV}(hok:E.Ok)(he:Nat.blt e E.n=true)(hz:(E.ti e).z=some z):∃v,(∀w,(zeroValue e).run E.P w=.ok v w)/\v.cells.toList.map b5d=z/\∃i,E.P.info? e=some i/\i.zero=some v/\i.size=(E.ti e).sz/\i.bytes=(E.ti e).bt:=by
 obtain ⟨i,dd,h1,_,h3,h4,_,h6,_⟩:=a0Q hok he
 rw [hz] at h6
 cases hv:i.zero with
 | none=>rw [hv] at h6;cases h6
 | some v =>
  rw [hv] at h6
  simp at h6
  exact ⟨v,fun w=>by simp [zeroValue,typeInfo,h1,hv],by simpa using h6,i,h1,hv,h3,h4⟩
theorem a1C{e:TypeId}{z:List AV}(he:Nat.blt e E.n=true)(hz:(E.ti e).z=some z)(h:K (.ptr H.length 0) (H++[some (.cells z e)])):a0z E ⟨d,.alloc e,ty,pos,after,g⟩ ρ H K:=by
 refine a1L (fun m w a hok hr hsim=>?_)
 obtain ⟨v,h1,h2,_⟩:=a2G hok he hz
 refine ⟨.pointer (some ⟨w.heap.size,0,none⟩),w.alloc (.cells v.cells e),m++[.blk w.heap.size],_,_,?_,Ext.push m w _,b7b hsim,hsim.push (ao:=.cells z e) ⟨_,heap_alloc_new w _,?_⟩,h⟩
 ·simp [execOp,Instr.alloc,h1,newVar,newRow]
 ·rw [<- h2];exact a3x _
theorem b8a{e:TypeId}{x:Operand}(hkn:known (ρ x)=true)(h:K (.ptr H.length 0) (H++[some (.cells (a0Z (ρ x)) e)])):a0z E ⟨d,.box e x,ty,pos,after,g⟩ ρ H K:=by
 refine a1L (fun m w a hok hr hsim=>?_)
 refine ⟨.pointer (some ⟨w.heap.size,0,none⟩),w.alloc (.cells (a.eval x).cells e),m++[.blk w.heap.size],_,_,?_,Ext.push m w _,b7b hsim,hsim.push (ao:=.cells (a0Z (ρ x)) e) ⟨_,heap_alloc_new w _,?_⟩,h⟩
 ·simp [execOp,Instr.box,newVar,newRow]
 ·exact RelL.ext (Ext.push m w _) _ (a2z (hr x) hkn)
/-! Struct literals and slice literals -/
def a4j(place:Nat->Option (Nat × Nat))(ρ:Operand->AV):List (Nat × Operand)->List AV->Option (List AV)
 | [],cs=>some cs
 | (i,x)::rest,cs =>
  match place i with
  | some (off,size) =>
   if known (ρ x)=true/\(a0Z (ρ x)).length=size/\off+size<=cs.length then a4j place ρ rest (spl cs off (a0Z (ρ x))) else none
  | none=>none
theorem b5S(vs:List Value):∀(off k:Nat) (cs:Array Value),off+k+vs.length<=cs.size ->
  ((vs.zipIdx k).foldl (fun cs p=>cs.setIfInBounds (off+p.2) p.1) cs).toList=cs.toList.take (off+k)++vs++cs.toList.drop (off+k+vs.length):=by
 induction vs with
 | nil=>intro off k cs h;simp
 | cons v vs ih =>
  intro off k cs h
  simp only [List.zipIdx_cons,List.foldl_cons,List.length_cons] at h ⊢
  rw [ih off (k+1) _ (by simp;omega)]
  have hlt:off+k<cs.toList.length:=by simp;omega
  rw [Array.toList_setIfInBounds,show off+(k+1)=(off+k)+1 by omega]
  rw [List.take_succ_eq_append_getElem (by simpa using hlt),List.getElem_set_self,List.take_set_of_le (by omega),List.drop_set_of_lt (by omega)]
  simp [Nat.add_comm,Nat.add_left_comm]
theorem a7Y{m:Mu}{w:World}{a:Act}(hr:∀x,E.Rel m w (ρ x) (a.eval x)){place:Nat->Option (Nat × Nat)}:∀(parts:List (Nat × Operand)) {cs:List AV} {us:Array Value} {out:List AV},
  a4j place ρ parts cs=some out->E.RelL m w cs us.toList->∃r,Instr.fill place us (parts.map fun p=>(p.1,a.eval p.2))=some r/\E.RelL m w out r.toList
 | [],cs,us,out,h,hc=>by
  simp only [a4j,Option.some.injEq] at h
  subst h
  exact ⟨us,rfl,hc⟩
 | (i,x)::rest,cs,us,out,h,hc=>by
  simp only [a4j] at h
  split at h
  ·rename_i off size hp
   split at h
   ·rename_i hcond
    obtain ⟨h1,h2,h3⟩:=hcond
    have hcr:=a2z (hr x) h1
    have hl:=hcr.length
    have hus:us.size=cs.length:=by simpa using hc.length
    have hvs:(a.eval x).cells.size=size:=by rw [<- h2,<- hl];simp
    have hfold:((a.eval x).cells.zipIdx.foldl (fun cs (p:Value × Nat)=>cs.setIfInBounds (off+p.2) p.1) us).toList=us.toList.take off++(a.eval x).cells.toList++us.toList.drop (off+(a.eval x).cells.toList.length):=by
     have:=b5S (a.eval x).cells.toList off 0 us (by simp;omega)
     rw [<- Array.foldl_toList,Array.toList_zipIdx]
     simpa using this
    have hnew:E.RelL m w (spl cs off (a0Z (ρ x))) ((a.eval x).cells.zipIdx.foldl (fun cs (p:Value × Nat)=>cs.setIfInBounds (off+p.2) p.1) us).toList:=by
     rw [hfold,hl]
     exact ((hc.take off).append hcr).append (hc.drop _)
    obtain ⟨r,h4,h5⟩:=a7Y hr rest h hnew
    refine ⟨r,?_,h5⟩
    simp only [List.map_cons,Instr.fill,hp]
    rw [if_neg (by simp [hvs];omega)]
    exact h4
   ·cases h
  ·cases h
def placesOf(E:Env)(fs:List (Nat × TypeId))(i:Nat):Option (Nat × Nat):=(fs[i]?).map fun p=>(p.1,(E.ti p.2).sz)
theorem run_places{F:Array Field}(hok:E.Ok)(hall:(F.toList.all fun f=>Nat.blt f.type E.n)=true)(w:World) :
  (F.mapM fun f=>(do pure (f.offset,<- sizeOf f.type):Sem (Nat × Nat))).run E.P w=.ok (F.map fun f=>(f.offset,(E.ti f.type).sz)) w:=by
 rw [Array.mapM_eq_mapM_toList]
 have key:∀l:List Field,(l.all fun f=>Nat.blt f.type E.n)=true->(l.mapM fun f=>(do pure (f.offset,<- sizeOf f.type):Sem (Nat × Nat))).run E.P w=.ok (l.map fun f=>(f.offset,(E.ti f.type).sz)) w:=by
  intro l
  induction l with
  | nil=>intro _;simp
  | cons f l ih =>
   intro h
   simp only [List.all_cons,Bool.and_eq_true] at h
   simp only [List.mapM_cons,Sem.run_bind,a1V hok h.1,Result.andThen_ok,Sem.run_pure,ih h.2,List.map_cons]
 simp only [Sem.run_map,key F.toList hall,Result.andThen_ok]
 congr 1
 apply Array.ext'
 simp
theorem c0e{t:TypeId}{fs:List (Nat × TypeId)}{parts:Array (Nat × Operand)}{z out:List AV}(ht:Nat.blt t E.n=true)(hk:(E.ti t).k=.struct fs)(hz:(E.ti t).z=some z)
  (hall:(fs.all fun p=>Nat.blt p.2 E.n)=true) (hf:a4j (placesOf E fs) ρ parts.toList z=some out) (h:K (.agg out) H):a0z E ⟨d,.build t parts,ty,pos,after,g⟩ ρ H K:=by
 refine a0G _ (fun m w a hok hr hsim=>?_) h
 obtain ⟨v,h1,h2,_⟩:=a2G hok ht hz
 obtain ⟨F,h3,h4⟩:=a3A hok ht hk
 subst h4
 have hp:=run_places (F:=F) hok (by simpa [List.all_map,Function.comp_def] using hall) w
 have hzr:E.RelL m w z v.cells.toList:=by rw [<- h2];exact a3x _
 have hpl:(fun i=>(F.map fun f=>(f.offset,(E.ti f.type).sz))[i]?)=placesOf E (F.toList.map fun f=>(f.offset,f.type)):=by
  funext i
  simp [placesOf,List.getElem?_map,Array.getElem?_map,Function.comp_def]
 obtain ⟨r,h5,h6⟩:=a7Y hr parts.toList hf hzr
 refine ⟨.agg r,?_,?_⟩
 ·simp only [execOp,Instr.build,Sem.run_bind,h1,Result.andThen_ok,run_underlying h3,hp]
  have e1:(parts.map fun (x:Nat × Operand)=>(x.1,a.eval x.2)).toList=parts.toList.map fun p=>(p.1,a.eval p.2):=by simp
  simp only [e1,hpl,h5]
  rfl
 show Abs.Rel _ _ _ _ _
 simp only [Abs.Rel]
 exact ⟨r.toList,by simp,h6⟩
/-! Slices made whole -/
def c3x(agg:Bool)(k:Nat):Nat->List Value->List Value
 | 0,_=>[]
 | n+1,us=>(if agg then .agg (us.take k).toArray else us.headD undef)::c3x agg k n (us.drop k)
def a3Z(agg:Bool)(k:Nat):Nat->List AV->List AV
 | 0,_=>[]
 | n+1,us=>(if agg then .agg (us.take k) else us.headD (.tup []))::a3Z agg k n (us.drop k)
theorem a4h{sz:Cx}{m:Mu}{w:World}{agg:Bool}{k:Nat}(hk:agg=false->k=1):∀(n:Nat) {cs:List AV} {us:List Value},RelL sz m w cs us->cs.length=n*k->(agg=false->∀u∈us,u.oneCell'=true) ->
  RelL sz m w (a3Z agg k n cs) (c3x agg k n us)/\(∀u∈c3x agg k n us,u.cells.size=k)/\flat (c3x agg k n us)=us
 | 0,cs,us,h,hl,_=>by
  have:us=[]:=List.eq_nil_of_length_eq_zero (by rw [h.length];simpa using hl)
  subst this
  simp [a3Z,c3x,RelL,flat]
 | n+1,cs,us,h,hl,h1=>by
  have hul:=h.length
  have hlen:k<=us.length:=by rw [hul,hl,Nat.add_mul];omega
  obtain ⟨i1,i2,i3⟩:=a4h hk n (h.drop k) (by rw [List.length_drop,hl,Nat.add_mul];omega) (fun ha u hu=>h1 ha u (List.mem_of_mem_drop hu))
  simp only [a3Z,c3x]
  cases agg with
  | true =>
   simp only [if_true]
   refine ⟨RelL.cons (by simp only [Rel];exact ⟨_,rfl,h.take k⟩) i1,?_,?_⟩
   ·intro u hu
    simp only [List.mem_cons] at hu
    rcases hu with rfl|hu
    ·simp [Value.cells];omega
    ·exact i2 u hu
   ·simp only [flat,List.flatMap_cons] at i3 ⊢
    rw [i3]
    simp [Value.cells]
  | false =>
   have hk1:=hk rfl
   subst hk1
   cases us with
   | nil=>simp at hlen
   | cons u us =>
    cases cs with
    | nil=>simp [RelL] at h
    | cons c cs =>
     rw [a0o] at h
     obtain ⟨u',r,hur,hcu,_⟩:=h
     simp only [List.cons.injEq] at hur
     obtain ⟨rfl,rfl⟩:=hur
     have hone:u.cells=#[u]:=by
      have:=h1 rfl u (by simp)
      cases u<;>simp [Value.oneCell'] at this<;>rfl
     simp only [Bool.false_eq_true,if_false,List.headD_cons]
     refine ⟨RelL.cons hcu i1,?_,?_⟩
     ·intro v hv
      simp only [List.mem_cons] at hv
      rcases hv with rfl|hv
      ·rw [hone];rfl
      ·exact i2 v hv
     simp only [flat,List.flatMap_cons] at i3 ⊢
     rw [i3,hone]
     simp
def a5k(k:Nat)(i:Nat):Option (Nat × Nat):=some (i*k,k)
def rep(z:List AV):Nat->List AV
 | 0=>[]
 | n+1=>z++rep z n
theorem a2O{sz:Cx}{m:Mu}{w:World}{z:List AV}{v:Value}(hz:v.cells.toList.map b5d=z)(hp:0<v.cells.size):∀n,RelL sz m w (rep z n) ((Array.range (n*v.cells.size)).map (v.cells[· % v.cells.size]!)).toList
 | 0=>by simp [rep,RelL]
 | n+1=>by
  have ih:=a2O (sz:=sz) (m:=m) (w:=w) hz hp n
  have e:((Array.range ((n+1)*v.cells.size)).map (v.cells[· % v.cells.size]!)).toList=v.cells.toList++((Array.range (n*v.cells.size)).map (v.cells[· % v.cells.size]!)).toList:=by
   simp only [Array.toList_map,Array.toList_range]
   apply List.ext_getElem?
   intro j
   rw [List.getElem?_append]
   simp only [List.getElem?_map,Array.length_toList]
   by_cases h1:j<v.cells.size
   ·have h2:j<(n+1)*v.cells.size:=by rw [Nat.add_mul];omega
    simp [h1,h2,Nat.mod_eq_of_lt h1]
   rw [if_neg h1]
   by_cases h2:j<(n+1)*v.cells.size
   ·have h3:j - v.cells.size<n*v.cells.size:=by rw [Nat.add_mul] at h2;omega
    simp only [List.getElem?_range h2,List.getElem?_range h3,Option.map_some]
    rw [<- Nat.mod_eq_sub_mod (by omega)]
   ·have h3:¬ j - v.cells.size<n*v.cells.size:=by rw [Nat.add_mul] at h2;omega
    rw [List.getElem?_eq_none (by simp;omega),List.getElem?_eq_none (by simp;omega)]
  rw [e]
  simp only [rep]
  refine RelL.append ?_ ih
  rw [<- hz]
  exact a3x _
theorem a2Q(z:List AV):∀n,(rep z n).length=n*z.length
 | 0=>by simp [rep]
 | n+1=>by simp [rep,a2Q z n,Nat.add_mul,Nat.add_comm]
theorem c1b{e:TypeId}{k n c:Nat}{sz:Cx}{m:Mu}{w:World}{H:Hp}(hs:Sim sz m w H){es:List AV}{vs:List Value}{us:Array Value}{w':World}(hw:w'=w.alloc (.cells us e))
  (hn:n=es.length) (hc:n<=c) (hm:c<=maxLen) (hr:RelL sz m w es vs) (hk:∀u∈vs,u.cells.size=k) (hf:us.toList.take (flat vs).length=flat vs) :
  Rel sz m w' (.sl k es) (.slice (some ⟨w.heap.size,0,none⟩) n c):=by
 subst hw
 subst hn
 simp only [Rel]
 refine ⟨_,c,vs,rfl,hc,hm,RelL.ext (Ext.alloc m w _) _ hr,hk,fun _=>⟨_,rfl,by simp,fun h=>?_,fun hX=>Nat.lt_irrefl _ (hs.xlt _ hX),fun j u hu=>?_⟩⟩
 ·have:=hs.lt h
  simp at this
 have hadd:(⟨w.heap.size,0,none⟩:Addr).add j=⟨w.heap.size,j,none⟩:=by unfold Addr.add;split<;>simp_all
 rw [hadd,cell_of_row _ _ j us e (0,0) (heap_alloc_new w _)]
 rw [<- hf,List.getElem?_take] at hu
 split at hu
 ·simpa using hu
 ·cases hu
theorem b1Q{e:TypeId}{k n c:Nat}{sz:Cx}{m:Mu}{w:World}{H:Hp}(hs:Sim sz m w H){es:List AV}{vs:List Value}{us:Array Value}{w':World}(hw:w'=w.alloc (.cells us e))
  (hc:n<=c) (hm:c<=maxLen) (hr:RelL sz m w es vs) (hk:∀u∈vs,u.cells.size=k) (hf:us.toList.take (flat vs).length=flat vs) (hke:k=sz.sz e) (hsz:us.size=c*k) :
  Ext m w (m++[.blk w.heap.size]) w'/\Rel sz (m++[.blk w.heap.size]) w' (.own H.length 0 n) (.slice (some ⟨w.heap.size,0,none⟩) n c)/\Sim sz (m++[.blk w.heap.size]) w' (H++[some (.arr es e)]):=by
 subst hw
 subst hke
 refine ⟨Ext.push m w _,?_,hs.push (ao:=.arr es e) ⟨us,vs,heap_alloc_new w _,RelL.ext (Ext.push m w _) _ hr,hk,hf⟩⟩
 simp only [Rel]
 have hget:(m++[MS.blk w.heap.size])[H.length]?=some (.blk w.heap.size):=by
  rw [List.getElem?_append_right (by rw [hs.len];exact Nat.le_refl _),hs.len];simp
 refine ⟨_,c,rfl,hc,hm,by simp [hs.len],fun h=>(by rw [hget] at h;cases h),fun b hb=>?_⟩
 rw [hget] at hb
 cases hb
 refine ⟨e,us.size,?_,?_,fun _=>by simp⟩
 ·unfold World.shape?
  rw [heap_alloc_new]
 ·rw [hsz];simp
theorem a5x{place:Nat->Option (Nat × Nat)}:∀(parts:List (Nat × Operand)) {cs out:List AV},a4j place ρ parts cs=some out->out.length=cs.length
 | [],cs,out,h=>by simp only [a4j,Option.some.injEq] at h;rw [h]
 | (i,x)::rest,cs,out,h=>by
  simp only [a4j] at h
  split at h
  ·split at h
   ·rename_i hcond
    rw [a5x rest h]
    simp [spl];omega
   ·cases h
  ·cases h
theorem a4W{t e:TypeId}{len:Nat}{parts:Array (Nat × Operand)}{z cs:List AV}(hok:E.Ok)(ht:Nat.blt t E.n=true)(hk:(E.ti t).k=.sl e)(he:Nat.blt e E.n=true)(hz:(E.ti e).z=some z)
  (hzl:Nat.beq z.length (E.ti e).sz=true) (hz0:Nat.blt 0 (E.ti e).sz=true) (hlim:Nat.ble (len*(E.ti e).sz) 16777216=true)
  (hf:a4j (a5k (E.ti e).sz) ρ parts.toList (rep z len)=some cs) {m:Mu} {w:World} {a:Act} (hr:∀x,E.Rel m w (ρ x) (a.eval x)) :
  ∃us:Array Value,(Instr.buildSlice t len (parts.map fun (i,x)=>(i,a.eval x))).run E.P w=.ok (.slice (some ⟨w.heap.size,0,none⟩) len len) (w.alloc (.cells us e))/\E.RelL m w cs us.toList/\us.size=len*(E.ti e).sz:=by
 obtain ⟨v,h1,h2,_⟩:=a2G hok he hz
 have hvs:v.cells.size=(E.ti e).sz:=by
  have:=congrArg List.length h2
  simp at this
  rw [this]
  exact Nat.eq_of_beq_eq_true hzl
 have hpos:0<(E.ti e).sz:=by simpa using hz0
 have hrep:=a2O (sz:=E.cx) (m:=m) (w:=w) h2 (by omega) len
 obtain ⟨r,h5,h6⟩:=a7Y hr parts.toList hf hrep
 have hle:len*(E.ti e).sz<=16777216:=Nat.le_of_ble_eq_true hlim
 refine ⟨r,?_,h6,?_⟩
 ·unfold Instr.buildSlice
  simp only [Sem.run_bind,run_underlying (a3z hok ht hk),Result.andThen_ok,a1V hok he]
  rw [if_neg (by omega)]
  by_cases hl0:len=0
  ·subst hl0
   simp only [Nat.zero_mul,Sem.run_pure,Result.andThen_ok,if_true,Sem.run_bind]
   have e1:(parts.map fun (x:Nat × Operand)=>(x.1,a.eval x.2)).toList=parts.toList.map fun p=>(p.1,a.eval p.2):=by simp
   rw [hvs] at h5
   simp only [Nat.zero_mul] at h5
   have e2:∀f g:Nat->Value,(Array.range 0).map f=(Array.range 0).map g:=fun f g=>by simp
   rw [e2 _ (v.cells[· % (E.ti e).sz]!)]
   simp only [e1]
   have h5':Instr.fill (fun i=>some (i*(E.ti e).sz,(E.ti e).sz)) ((Array.range 0).map (v.cells[· % (E.ti e).sz]!)) (parts.toList.map fun p=>(p.1,a.eval p.2))=some r:=h5
   rw [h5']
   simp [newRow]
  have hne:¬ len*(E.ti e).sz=0:=by
   intro h
   rcases Nat.mul_eq_zero.1 h with h|h<;>omega
  rw [if_neg hne]
  simp only [Sem.run_bind,h1,Result.andThen_ok,Sem.run_pure]
  have e1:(parts.map fun (x:Nat × Operand)=>(x.1,a.eval x.2)).toList=parts.toList.map fun p=>(p.1,a.eval p.2):=by simp
  rw [hvs] at h5
  simp only [e1,hvs]
  have h5':Instr.fill (fun i=>some (i*(E.ti e).sz,(E.ti e).sz)) ((Array.range (len*(E.ti e).sz)).map (v.cells[· % (E.ti e).sz]!)) (parts.toList.map fun p=>(p.1,a.eval p.2))=some r:=h5
  rw [h5']
  simp [newRow]
 have:=h6.length
 rw [a5x _ hf,a2Q,Nat.eq_of_beq_eq_true hzl] at this
 simpa using this
theorem a9K{t e:TypeId}{len:Nat}{parts:Array (Nat × Operand)}{z cs:List AV}(ht:Nat.blt t E.n=true)(hk:(E.ti t).k=.sl e)(he:Nat.blt e E.n=true)(hz:(E.ti e).z=some z)
  (hzl:Nat.beq z.length (E.ti e).sz=true) (hz0:Nat.blt 0 (E.ti e).sz=true) (hlim:Nat.ble (len*(E.ti e).sz) 16777216=true) (hag:(E.ti e).k.agg=true\/Nat.beq (E.ti e).sz 1=true)
  (hf:a4j (a5k (E.ti e).sz) ρ parts.toList (rep z len)=some cs) (hone:(E.ti e).k.agg=true\/cs.all a5m=true) (h:K (.sl (E.ti e).sz (a3Z (E.ti e).k.agg (E.ti e).sz len cs)) H) :
  a0z E ⟨d,.buildSlice t len parts,ty,pos,after,g⟩ ρ H K:=by
 refine a1L (fun m w a hok hr hsim=>?_)
 obtain ⟨us,h1,h2,h3⟩:=a4W hok ht hk he hz hzl hz0 hlim hf hr
 have hlen:cs.length=len*(E.ti e).sz:=by rw [a5x _ hf,a2Q,Nat.eq_of_beq_eq_true hzl]
 obtain ⟨r1,r2,r3⟩:=a4h (agg:=(E.ti e).k.agg) (k:=(E.ti e).sz) (fun ha=>by
  rcases hag with h|h
  ·rw [h] at ha;cases ha
  ·exact Nat.eq_of_beq_eq_true h) len h2 hlen (fun ha=>by
  rcases hone with h|h
  ·rw [h] at ha;cases ha
  ·exact a2w h2 h)
 have hal:(a3Z (E.ti e).k.agg (E.ti e).sz len cs).length=len:=by
  have:∀n (l:List AV),(a3Z (E.ti e).k.agg (E.ti e).sz n l).length=n:=by
   intro n;induction n with
   | zero=>intro l;rfl
   | succ n ih=>intro l;simp [a3Z,ih]
  exact this _ _
 have hle:len<=maxLen:=by
  have h4:len*(E.ti e).sz<=16777216:=Nat.le_of_ble_eq_true hlim
  have h5:0<(E.ti e).sz:=by simpa using hz0
  have:=Nat.le_mul_of_pos_right len h5
  unfold maxLen;omega
 refine ⟨.slice (some ⟨w.heap.size,0,none⟩) len len,w.alloc (.cells us e),m,_,H,by simp only [execOp,Sem.run_bind,h1,Result.andThen_ok,Sem.run_pure],Ext.alloc m w _,?_,hsim.alloc _,h⟩
 exact c1b hsim rfl hal.symm (Nat.le_refl _) hle r1 r2 (by rw [r3,List.take_of_length_le (Nat.le_refl _)])
theorem a1o{t e:TypeId}{len:Nat}{parts:Array (Nat × Operand)}{z cs:List AV}(ht:Nat.blt t E.n=true)(hk:(E.ti t).k=.sl e)(he:Nat.blt e E.n=true)(hz:(E.ti e).z=some z)
  (hzl:Nat.beq z.length (E.ti e).sz=true) (hz0:Nat.blt 0 (E.ti e).sz=true) (hlim:Nat.ble (len*(E.ti e).sz) 16777216=true) (hag:(E.ti e).k.agg=true\/Nat.beq (E.ti e).sz 1=true)
  (hf:a4j (a5k (E.ti e).sz) ρ parts.toList (rep z len)=some cs) (hone:(E.ti e).k.agg=true\/cs.all a5m=true) (h:K (.own H.length 0 len) (H++[some (.arr (a3Z (E.ti e).k.agg (E.ti e).sz len cs) e)])) :
  a0z E ⟨d,.buildSlice t len parts,ty,pos,after,g⟩ ρ H K:=by
 refine a1L (fun m w a hok hr hsim=>?_)
 obtain ⟨us,h1,h2,h3⟩:=a4W hok ht hk he hz hzl hz0 hlim hf hr
 have hlen:cs.length=len*(E.ti e).sz:=by rw [a5x _ hf,a2Q,Nat.eq_of_beq_eq_true hzl]
 obtain ⟨r1,r2,r3⟩:=a4h (agg:=(E.ti e).k.agg) (k:=(E.ti e).sz) (fun ha=>by
  rcases hag with h|h
  ·rw [h] at ha;cases ha
  ·exact Nat.eq_of_beq_eq_true h) len h2 hlen (fun ha=>by
  rcases hone with h|h
  ·rw [h] at ha;cases ha
  ·exact a2w h2 h)
 have hal:(a3Z (E.ti e).k.agg (E.ti e).sz len cs).length=len:=by
  have:∀n (l:List AV),(a3Z (E.ti e).k.agg (E.ti e).sz n l).length=n:=by
   intro n;induction n with
   | zero=>intro l;rfl
   | succ n ih=>intro l;simp [a3Z,ih]
  exact this _ _
 have hle:len<=maxLen:=by
  have h4:len*(E.ti e).sz<=16777216:=Nat.le_of_ble_eq_true hlim
  have h5:0<(E.ti e).sz:=by simpa using hz0
  have:=Nat.le_mul_of_pos_right len h5
  unfold maxLen;omega
 have hsz2:E.cx.sz e=(E.ti e).sz:=by obtain ⟨_,_,_,_,_,_,_,_,_,h⟩:=a0Q hok he;exact h
 obtain ⟨q1,q2,q3⟩:=b1Q (e:=e) (n:=len) (c:=len) hsim rfl (Nat.le_refl _) hle r1 r2 (by rw [r3,List.take_of_length_le (Nat.le_refl _)]) hsz2.symm h3
 exact ⟨.slice (some ⟨w.heap.size,0,none⟩) len len,w.alloc (.cells us e),_,_,_,by simp only [execOp,Sem.run_bind,h1,Result.andThen_ok,Sem.run_pure],q1,q2,q3,h⟩
/-! make -/
def c2j(z:List AV)(agg:Bool):AV:=if agg then .agg z else z.headD (.tup [])
theorem a7s{agg:Bool}{z:List AV}{k:Nat}(hz:z.length=k)(hk:agg=false->k=1):∀n,a3Z agg k n (rep z n)=List.replicate n (c2j z agg)
 | 0=>rfl
 | n+1=>by
  have h1:(rep z (n+1)).take k=z:=by simp [rep,<- hz]
  have h2:(rep z (n+1)).drop k=rep z n:=by simp [rep,<- hz]
  simp only [a3Z,h1,h2,a7s hz hk n,List.replicate_succ,c2j]
  cases agg with
  | true=>rfl
  | false =>
   have:=hk rfl
   cases z with
   | nil=>simp at hz;omega
   | cons x xs=>simp [rep]
theorem run_mk{t e:TypeId}{z:List AV}{kl kc:IntKind}{l c:Nat}(hok:E.Ok)(ht:Nat.blt t E.n=true)(hk:(E.ti t).k=.sl e)(he:Nat.blt e E.n=true)(hz:(E.ti e).z=some z)
  (hzl:Nat.beq z.length (E.ti e).sz=true) (hz0:Nat.blt 0 (E.ti e).sz=true) (hlc:l<=c) (hb:(E.ti e).bt*c<=281474976710656) (hm:c<=maxLen) {m:Mu} {w:World} :
  ∃us:Array Value,(Instr.makeSlice t (.int kl l) (.int kc c)).run E.P w=.ok (.slice (some ⟨w.heap.size,0,none⟩) l c) (w.alloc (.cells us e))/\E.RelL m w (rep z c) us.toList/\us.size=c*(E.ti e).sz:=by
 obtain ⟨v,h1,h2,i,h3,h4,h5,h6⟩:=a2G hok he hz
 have hvs:v.cells.size=(E.ti e).sz:=by
  have:=congrArg List.length h2
  simp at this
  rw [this]
  exact Nat.eq_of_beq_eq_true hzl
 have hpos:0<(E.ti e).sz:=by simpa using hz0
 have hrep:=a2O (sz:=E.cx) (m:=m) (w:=w) h2 (by omega) c
 have hrun:=run_make (P:=E.P) w t e i v (a3z hok ht hk) h3 h4 kl kc (l:Int) (c:Int) (by omega) (by omega) (by rw [h6,<- Int.natCast_mul];generalize (E.ti e).bt*c=p at hb ⊢;omega) (by unfold maxLen at hm;omega)
 refine ⟨_,by simpa [h5] using hrun,?_,by simp [size_madeCells]⟩
 rw [hvs] at hrep
 simpa [madeCells,hvs] using hrep
theorem b8e{t e:TypeId}{x y:Operand}{z:List AV}{kl kc:IntKind}{n:Nat}{nl nc:Int}(ht:Nat.blt t E.n=true)(hk:(E.ti t).k=.sl e)(he:Nat.blt e E.n=true)(hz:(E.ti e).z=some z)
  (hzl:Nat.beq z.length (E.ti e).sz=true) (hz0:Nat.blt 0 (E.ti e).sz=true) (hag:(E.ti e).k.agg=true\/Nat.beq (E.ti e).sz 1=true) (hone:(E.ti e).k.agg=true\/z.all a5m=true) (hx:ρ x=.int kl nl) (hy:ρ y=.int kc nc) (hnl:nl=(n:Int)) (hnc:nc=(n:Int))
  (hb:(E.ti e).bt*n<=281474976710656) (hm:n<=maxLen) (h:K (.sl (E.ti e).sz (List.replicate n (c2j z (E.ti e).k.agg))) H):a0z E ⟨d,.makeSlice t x y,ty,pos,after,g⟩ ρ H K:=by
 refine a1L (fun m w a hok hr hsim=>?_)
 obtain ⟨us,h1,h2,h3⟩:=run_mk (kl:=kl) (kc:=kc) (l:=n) hok ht hk he hz hzl hz0 (Nat.le_refl n) hb hm (m:=m) (w:=w)
 have hx':=hr x;have hy':=hr y
 rw [hx] at hx';rw [hy] at hy'
 subst hnl;subst hnc
 have hzl':=Nat.eq_of_beq_eq_true hzl
 have hk1:(E.ti e).k.agg=false->(E.ti e).sz=1:=fun ha=>by
  rcases hag with h|h
  ·rw [h] at ha;cases ha
  ·exact Nat.eq_of_beq_eq_true h
 have hall:∀n,(∀q∈z,a5m q=true)->(rep z n).all a5m=true:=fun n hq=>by
  induction n with
  | zero=>rfl
  | succ n ih=>simp only [rep,List.all_append,ih,Bool.and_true,List.all_eq_true];exact hq
 obtain ⟨r1,r2,r3⟩:=a4h (agg:=(E.ti e).k.agg) (k:=(E.ti e).sz) hk1 n h2 (by rw [a2Q,hzl']) (fun ha=>by
  rcases hone with h|h
  ·rw [h] at ha;cases ha
  ·exact a2w h2 (hall n (by simpa using h)))
 rw [a7s hzl' hk1] at r1
 refine ⟨.slice (some ⟨w.heap.size,0,none⟩) n n,w.alloc (.cells us e),m,_,H,by simp only [execOp,Sem.run_bind,a1m hx',a1m hy',h1,Result.andThen_ok,Sem.run_pure],Ext.alloc m w _,?_,hsim.alloc _,h⟩
 exact c1b hsim rfl (by simp) (Nat.le_refl _) hm r1 r2 (by rw [r3,List.take_of_length_le (Nat.le_refl _)])
theorem b2p{t e:TypeId}{x y:Operand}{z:List AV}{kl kc:IntKind}{n c:Nat}{nl nc:Int}(ht:Nat.blt t E.n=true)(hk:(E.ti t).k=.sl e)(he:Nat.blt e E.n=true)(hz:(E.ti e).z=some z)
  (hzl:Nat.beq z.length (E.ti e).sz=true) (hz0:Nat.blt 0 (E.ti e).sz=true) (hag:(E.ti e).k.agg=true\/Nat.beq (E.ti e).sz 1=true) (hone:(E.ti e).k.agg=true\/z.all a5m=true) (hx:ρ x=.int kl nl) (hy:ρ y=.int kc nc) (hnl:nl=(n:Int)) (hnc:nc=(c:Int)) (hlc:n<=c)
  (hb:(E.ti e).bt*c<=281474976710656) (hm:c<=maxLen) (h:K (.own H.length 0 n) (H++[some (.arr (List.replicate n (c2j z (E.ti e).k.agg)) e)])):a0z E ⟨d,.makeSlice t x y,ty,pos,after,g⟩ ρ H K:=by
 refine a1L (fun m w a hok hr hsim=>?_)
 obtain ⟨us,h1,h2,h3⟩:=run_mk (kl:=kl) (kc:=kc) (l:=n) hok ht hk he hz hzl hz0 hlc hb hm (m:=m) (w:=w)
 have hx':=hr x;have hy':=hr y
 rw [hx] at hx';rw [hy] at hy'
 subst hnl;subst hnc
 have hzl':=Nat.eq_of_beq_eq_true hzl
 have hk1:(E.ti e).k.agg=false->(E.ti e).sz=1:=fun ha=>by
  rcases hag with h|h
  ·rw [h] at ha;cases ha
  ·exact Nat.eq_of_beq_eq_true h
 have hall:∀n,(∀q∈z,a5m q=true)->(rep z n).all a5m=true:=fun n hq=>by
  induction n with
  | zero=>rfl
  | succ n ih=>simp only [rep,List.all_append,ih,Bool.and_true,List.all_eq_true];exact hq
 obtain ⟨r1,r2,r3⟩:=a4h (agg:=(E.ti e).k.agg) (k:=(E.ti e).sz) hk1 c h2 (by rw [a2Q,hzl']) (fun ha=>by
  rcases hone with h|h
  ·rw [h] at ha;cases ha
  ·exact a2w h2 (hall c (by simpa using h)))
 rw [a7s hzl' hk1] at r1
 have hsz2:E.cx.sz e=(E.ti e).sz:=by obtain ⟨_,_,_,_,_,_,_,_,_,h⟩:=a0Q hok he;exact h
 have r4:=r1.take n
 rw [List.take_replicate,Nat.min_eq_left hlc] at r4
 have hft:=a2B r2 n
 obtain ⟨q1,q2,q3⟩:=b1Q (e:=e) (n:=n) (c:=c) hsim rfl hlc hm r4 (fun u hu=>r2 u (List.mem_of_mem_take hu)) (by
  rw [hft,r3]
  simp only [List.length_take]
  rw [List.take_eq_take_iff];simp) hsz2.symm h3
 exact ⟨.slice (some ⟨w.heap.size,0,none⟩) n c,w.alloc (.cells us e),_,_,_,by simp only [execOp,Sem.run_bind,a1m hx',a1m hy',h1,Result.andThen_ok,Sem.run_pure],q1,q2,q3,h⟩
end
end Go.Abs
namespace Go.Abs
section
variable{E:Env}{N n0:Nat}{Q:Exit->St->Prop}{s:St}{ρ:Operand->AV}{H:Hp}{K:AV->Hp->Prop}
variable{d:Option Tmp}{ty:TypeId}{pos:String}{after:Array Edge}{g:Option (Nat × Bool)}
def a6O(E:Env)(H:Hp)(k:Nat):AV->Option (List AV)
 | .nils=>some []
 | .sl k' es=>if k'=k then some es else none
 | .own id lo n=>match H[id]? with
  | some (some (.arr es e))=>if (E.ti e).sz=k/\Nat.blt e E.n=true/\lo+n<=es.length then some ((es.drop lo).take n) else none
  | _=>none
 | _=>none
theorem a7m{m:Mu}{w:World}{k:Nat}{x:AV}{v:Value}{es:List AV}(hok:E.Ok)(hs:E.Sim m w H)(hx:E.Rel m w x v)(h:a6O E H k x=some es) :
  ∃A c vs,v=.slice A es.length c/\es.length<=c/\E.RelL m w es vs/\(∀u∈vs,u.cells.size=k)/\(flat vs≠[]->∃a,A=some a/\∀(j:Nat) (u:Value),(flat vs)[j]?=some u->w.cell? (a.add j)=some u):=by
 cases x with
 | nils =>
  simp only [a6O,Option.some.injEq] at h;subst h
  simp only [Env.Rel,Abs.Rel] at hx
  exact ⟨none,0,[],by simpa using hx,by simp,by simp [Abs.RelL],by simp,by simp [flat]⟩
 | sl k' es' =>
  simp only [a6O] at h
  split at h
  ·rename_i hk;subst hk;cases h
   simp only [Env.Rel,Abs.Rel] at hx
   obtain ⟨A,c,vs,h1,h2,h3,h4,h5,h6⟩:=hx
   refine ⟨A,c,vs,h1,h2,h4,h5,fun hne=>?_⟩
   obtain ⟨a,ha,_,_,_,hc⟩:=h6 hne
   exact ⟨a,ha,hc⟩
  ·cases h
 | own id lo n =>
  simp only [a6O] at h
  split at h
  ·rename_i es0 e ho
   split at h
   ·rename_i hc
    obtain ⟨hk,he,hle⟩:=hc
    cases h
    simp only [Env.Rel,Abs.Rel] at hx
    obtain ⟨A,c,h1,h2,h3,h4,h5,h6⟩:=hx
    have hlen:((es0.drop lo).take n).length=n:=by simp;omega
    obtain ⟨q,hq,hob⟩:=hs.live id _ ho
    cases q with
    | dead=>exact hob.elim
    | nil =>
     subst hob
     simp at hle
     obtain ⟨rfl,rfl⟩:=hle
     exact ⟨A,c,[],by simpa using h1,by simp,by simp [Abs.RelL],by simp,by simp [flat]⟩
    | blk b =>
     obtain ⟨us,vs,h7,h8,h9,h10⟩:=hob
     have hsz2:E.cx.sz e=(E.ti e).sz:=by obtain ⟨_,_,_,_,_,_,_,_,_,h⟩:=a0Q hok he;exact h
     obtain ⟨e2,k2,h11,h12,h13⟩:=h6 b hq
     have hee:e2=e:=by
      unfold World.shape? at h11
      rw [h7] at h11
      simp at h11
      exact h11.1.symm
     subst hee
     have hk9:∀u∈(vs.drop lo).take n,u.cells.size=k:=fun u hu=>by
      rw [h9 u (List.mem_of_mem_drop (List.mem_of_mem_take hu)),hsz2,hk]
     refine ⟨A,c,(vs.drop lo).take n,by rw [hlen];exact h1,by omega,(h8.drop lo).take n,hk9,fun hne=>?_⟩
     have hn0:0<n:=by
      rcases Nat.eq_zero_or_pos n with h0|h0
      ·subst h0;simp [flat] at hne
      ·exact h0
     have hA:=h13 (.inl (by omega))
     refine ⟨_,hA,fun j u hu=>?_⟩
     have hadd:(⟨b,lo*E.cx.sz e2,none⟩:Addr).add j=⟨b,lo*E.cx.sz e2+j,none⟩:=by unfold Addr.add;split<;>simp_all
     rw [hadd,cell_of_row w b _ us e2 (0,0) h7]
     have h9':∀u∈vs,u.cells.size=E.cx.sz e2:=h9
     have h9d:∀u∈vs.drop lo,u.cells.size=E.cx.sz e2:=fun u hu=>h9 u (List.mem_of_mem_drop hu)
     rw [a2B h9d,a4k h9',List.getElem?_take,List.getElem?_drop] at hu
     split at hu
     ·rw [<- h10,List.getElem?_take] at hu
      split at hu
      ·simpa using hu
      ·cases hu
     ·cases hu
   ·cases h
  ·cases h
 | _=>simp [a6O] at h
def b8y(H:Hp)(e:TypeId):AV->Option (Option Nat × List AV)
 | .nils=>some (none,[])
 | .own id lo n=>match H[id]? with
  | some (some (.arr es e'))=>if e'=e/\lo=0/\n=es.length then some (some id,es) else none
  | _=>none
 | _=>none
def a2V(H:Hp):Option Nat->Hp
 | none=>H
 | some id=>H.set id none
def a3V(m:Mu):Option Nat->Mu
 | none=>m
 | some id=>m.set id .dead
theorem b8Z{m:Mu}{w:World}{e:TypeId}{x:AV}{v:Value}{es:List AV}{oid:Option Nat}(hok:E.Ok)(he:Nat.blt e E.n=true)(hs:E.Sim m w H)(hx:E.Rel m w x v)(h:b8y H e x=some (oid,es)) :
  ∃vs,w.ownsRow 0 e (E.ti e).sz v es.length (flat vs)/\E.RelL m w es vs/\(∀u∈vs,u.cells.size=(E.ti e).sz)/\(∀b,v.ownBlock=some b->∃id,oid=some id/\m[id]?=some (.blk b)):=by
 have hsz2:E.cx.sz e=(E.ti e).sz:=by obtain ⟨_,_,_,_,_,_,_,_,_,h⟩:=a0Q hok he;exact h
 cases x with
 | nils =>
  simp only [b8y,Option.some.injEq,Prod.mk.injEq] at h
  obtain ⟨rfl,rfl⟩:=h
  simp only [Env.Rel,Abs.Rel] at hx
  subst hx
  exact ⟨[],by simpa [flat] using World.ownsRow_nil w 0 e (E.ti e).sz,by simp [Abs.RelL],by simp,by simp [Value.ownBlock]⟩
 | own id lo n =>
  simp only [b8y] at h
  split at h
  ·rename_i es0 e' ho
   split at h
   ·rename_i hc
    obtain ⟨rfl,rfl,rfl⟩:=hc
    simp only [Option.some.injEq,Prod.mk.injEq] at h
    obtain ⟨rfl,rfl⟩:=h
    simp only [Env.Rel,Abs.Rel] at hx
    obtain ⟨A,c,h1,h2,h3,h4,h5,h6⟩:=hx
    obtain ⟨q,hq,hob⟩:=hs.live id _ ho
    cases q with
    | dead=>exact hob.elim
    | nil =>
     subst hob
     obtain ⟨rfl,rfl⟩:=h5 hq
     subst h1
     exact ⟨[],by simpa [flat] using World.ownsRow_nil w 0 e' (E.ti e').sz,by simp [Abs.RelL],by simp,by simp [Value.ownBlock]⟩
    | blk b =>
     obtain ⟨us,vs,h7,h8,h9,h10⟩:=hob
     obtain ⟨e2,k2,h11,h12,h13⟩:=h6 b hq
     have hee:e2=e'/\k2=us.size:=by
      unfold World.shape? at h11
      rw [h7] at h11
      simp at h11
      exact ⟨h11.1.symm,h11.2.symm⟩
     obtain ⟨rfl,rfl⟩:=hee
     have hA:=h13 (.inr rfl)
     subst h1
     simp only [Nat.zero_mul] at hA
     subst hA
     have hfl:=a1k h9
     rw [h8.length] at hfl
     refine ⟨vs,⟨by rw [hfl,hsz2],.inr ⟨b,c,us,rfl,Nat.zero_le _,h7,h2,h3,?_,?_⟩⟩,h8,fun u hu=>by rw [h9 u hu,hsz2],fun b' hb'=>?_⟩
     ·rw [<- h12,hsz2];simp
     ·rw [<- hsz2,<- hfl];exact h10
     simp [Value.ownBlock] at hb'
     subst hb'
     exact ⟨id,rfl,hq⟩
   ·cases h
  ·cases h
 | _=>simp [b8y] at h
theorem b5Y{m:Mu}{w w':World}{e:TypeId}{v v':Value}{oid:Option Nat}{es:List AV}{vs:List Value}{n:Nat}(hok:E.Ok)(he:Nat.blt e E.n=true)(hs:E.Sim m w H)
  (hoid:∀b,v.ownBlock=some b->∃id,oid=some id/\m[id]?=some (.blk b)) (hlt:∀id,oid=some id->id<m.length) (hn:n=es.length)
  (hown:w'.ownsRow 0 e (E.ti e).sz v' n (flat vs)) (hg:w.grownBy w' v.ownBlock) (hat:v'.ownBlock=v.ownBlock\/v'.ownBlock=some w.heap.size) (hr:E.RelL m w es vs) (hk:∀u∈vs,u.cells.size=(E.ti e).sz)
  (hsh:∀b s,w.shape? b=some s->w'.shape? b=some s) :
  ∃m',Ext m w m' w'/\E.Rel m' w' (.own H.length 0 n) v'/\E.Sim m' w' (a2V H oid++[some (.arr es e)]):=by
 have hsz2:E.cx.sz e=(E.ti e).sz:=by obtain ⟨_,_,_,_,_,_,_,_,_,h⟩:=a0Q hok he;exact h
 -- the new name's state
 obtain ⟨x,hx1,hx2⟩:∃x:MS,(x=.nil/\v'=.slice none 0 0/\n=0\/∃g cap cur,x=.blk g/\v'=.slice (some ⟨g,0,none⟩) n cap/\w'.heap[g]?=some (.cells cur e (0,0))/\n<=cap/\cap<=maxLen/\cur.size=cap*(E.ti e).sz/\cur.toList.take (n*(E.ti e).sz)=flat vs) /\
   (∀g,x=.blk g->(∃id,oid=some id/\m[id]?=some (.blk g))\/g=w.heap.size):=by
  rcases hown.2 with ⟨h1,h2⟩|⟨g,cap,cur,h1,_,h2,h3,h4,h5,h6⟩
  ·exact ⟨.nil,.inl ⟨rfl,h1,h2⟩,by simp⟩
  refine ⟨.blk g,.inr ⟨g,cap,cur,rfl,h1,h2,h3,h4,h5,h6⟩,fun g' hg'=>?_⟩
  cases hg'
  subst h1
  rcases hat with h|h
  ·exact .inl (hoid g (by rw [<- h];rfl))
  ·simp [Value.ownBlock] at h
   exact .inr h
 have hdl:(a3V m oid).length=m.length:=by cases oid<;>simp [a3V]
 have hHl:(a2V H oid).length=H.length:=by cases oid<;>simp [a2V]
 have hsub:∀(i:Nat) (y:MS),y≠.dead->(a3V m oid)[i]?=some y->m[i]?=some y/\oid≠some i:=fun i y hy h=>by
  cases oid with
  | none=>exact ⟨h,by simp⟩
  | some id =>
   simp only [a3V] at h
   by_cases hid:id=i
   ·subst hid
    rw [List.getElem?_set_self (hlt id rfl)] at h
    cases h;exact absurd rfl hy
   ·rw [List.getElem?_set_ne hid] at h
    exact ⟨h,by simp [hid]⟩
 have hmem:∀b,MS.blk b∈a3V m oid->MS.blk b∈m:=fun b hb=>by
  obtain ⟨i,hi,he⟩:=List.getElem_of_mem hb
  exact List.mem_of_getElem? (hsub i _ (by simp) (by rw [List.getElem?_eq_getElem hi,he])).1
 have hext:Ext m w (a3V m oid++[x]) w':={
  os:=hg.os
  tape:=hg.tape
  output:=hg.output
  size:=hg.size
  keep:=fun b hb hn=>hg.block b hb fun e=>by
   obtain ⟨id,_,h2⟩:=hoid b e.symm
   exact hn (List.mem_of_getElem? h2)
  fresh:=fun b hb h=>by
   simp only [List.mem_append,List.mem_singleton] at h
   rcases h with h|h
   ·exact hmem b h
   rcases hx2 b h.symm with ⟨id,_,h2⟩|h2
   ·exact List.mem_of_getElem? h2
   ·omega
  len:=by simp [hdl]
  ids:=fun i y hi hy h=>by
   rw [List.getElem?_append_left (by rw [hdl];exact hi)] at h
   exact (hsub i y hy h).1
  shape:=hsh }
 have hnew:(a3V m oid++[x])[H.length]?=some x:=by
  rw [List.getElem?_append_right (by rw [hdl,hs.len];exact Nat.le_refl _),hdl,hs.len];simp
 refine ⟨a3V m oid++[x],hext,?_,?_⟩
 ·show Abs.Rel _ _ _ _ _
  simp only [Abs.Rel]
  rcases hx1 with ⟨hx,h1,h2⟩|⟨g,cap,cur,hx,h1,h2,h3,h4,h5,h6⟩
  ·subst h2
   refine ⟨none,0,h1,Nat.le_refl _,Nat.zero_le _,by simp [hdl,hs.len],fun _=>⟨rfl,rfl⟩,fun b hb=>?_⟩
   rw [hnew,hx] at hb;cases hb
  refine ⟨_,cap,h1,h3,h4,by simp [hdl,hs.len],fun h=>?_,fun b hb=>?_⟩
  ·rw [hnew,hx] at h;cases h
  ·rw [hnew,hx] at hb;cases hb
   exact ⟨e,cur.size,by unfold World.shape?;rw [h2],by rw [h5,hsz2];simp,fun _=>by simp⟩
 refine ⟨by simp [hdl,hHl,hs.len],fun i o ho=>?_,fun i ho=>?_,fun i j b hi hj=>?_,fun b hb=>Nat.lt_of_lt_of_le (hs.xlt b hb) hg.size,fun b hb hX=>?_⟩
 ·rcases Nat.lt_or_ge i H.length with hl|hge
  ·rw [List.getElem?_append_left (by rw [hHl];exact hl)] at ho
   have hne:oid≠some i:=fun h=>by
    subst h
    simp only [a2V] at ho
    rw [List.getElem?_set_self hl] at ho
    cases ho
   have ho':H[i]?=some (some o):=by
    cases oid with
    | none=>exact ho
    | some id =>
     simp only [a2V] at ho
     rwa [List.getElem?_set_ne (by intro h;exact hne (by rw [h]))] at ho
   obtain ⟨y,h1,h2⟩:=hs.live i o ho'
   have h3:(a3V m oid++[x])[i]?=some y:=by
    rw [List.getElem?_append_left (by rw [hdl,hs.len];exact hl)]
    cases oid with
    | none=>exact h1
    | some id =>
     simp only [a3V]
     rwa [List.getElem?_set_ne (by intro h;exact hne (by rw [h]))]
   refine ⟨y,h3,h2.ext hext fun b hb=>?_⟩
   subst hb
   refine hg.block b h2.lt fun e=>?_
   obtain ⟨id,hid,h4⟩:=hoid b e.symm
   have:=hs.inj i id b h1 h4
   subst this
   exact hne hid
  rw [List.getElem?_append_right (by rw [hHl];exact hge),hHl] at ho
  have h0:i - H.length=0:=by
   rcases Nat.eq_zero_or_pos (i - H.length) with h0|h0
   ·exact h0
   ·rw [List.getElem?_eq_none (by simp;omega)] at ho;cases ho
  rw [h0] at ho
  simp at ho
  subst ho
  have:i=H.length:=by omega
  subst this
  refine ⟨x,hnew,?_⟩
  rcases hx1 with ⟨hx,h1,h2⟩|⟨g,cap,cur,hx,h1,h2,h3,h4,h5,h6⟩
  ·subst hx
   show es=[]
   exact List.eq_nil_of_length_eq_zero (by omega)
  subst hx
  have hfl:=a1k hk
  rw [hr.length,<- hn] at hfl
  exact ⟨cur,vs,h2,RelL.ext hext _ hr,fun u hu=>by rw [hk u hu,hsz2],by rw [hfl];exact h6⟩
 ·rcases Nat.lt_or_ge i H.length with hl|hge
  ·rw [List.getElem?_append_left (by rw [hHl];exact hl)] at ho
   rw [List.getElem?_append_left (by rw [hdl,hs.len];exact hl)]
   cases oid with
   | none=>exact hs.dead i ho
   | some id =>
    simp only [a2V,a3V] at ho ⊢
    by_cases hid:id=i
    ·subst hid
     rw [List.getElem?_set_self (hlt id rfl)]
    ·rw [List.getElem?_set_ne hid] at ho ⊢
     exact hs.dead i ho
  rw [List.getElem?_append_right (by rw [hHl];exact hge),hHl] at ho
  have h0:i - H.length=0:=by
   rcases Nat.eq_zero_or_pos (i - H.length) with h0|h0
   ·exact h0
   ·rw [List.getElem?_eq_none (by simp;omega)] at ho;cases ho
  rw [h0] at ho
  simp at ho
 ·have key:∀i:Nat,(a3V m oid++[x])[i]?=some (.blk b)->(m[i]?=some (.blk b)/\oid≠some i)\/(i=m.length/\x=.blk b):=fun i hi=>by
   rcases Nat.lt_or_ge i m.length with hl|hge
   ·rw [List.getElem?_append_left (by rw [hdl];exact hl)] at hi
    exact .inl (hsub i _ (by simp) hi)
   rw [List.getElem?_append_right (by rw [hdl];exact hge),hdl] at hi
   have h0:i - m.length=0:=by
    rcases Nat.eq_zero_or_pos (i - m.length) with h0|h0
    ·exact h0
    ·rw [List.getElem?_eq_none (by simp;omega)] at hi;cases hi
   rw [h0] at hi
   simp at hi
   exact .inr ⟨by omega,hi⟩
  have clash:∀i:Nat,m[i]?=some (.blk b)->oid≠some i->x=.blk b->False:=fun i h1 h2 h3=>by
   rcases hx2 b h3 with ⟨id,hid,h4⟩|h4
   ·exact h2 (by rw [hid,hs.inj i id b h1 h4])
   ·have:=hs.lt (List.mem_of_getElem? h1);omega
  rcases key i hi with ⟨h1,h2⟩|⟨h1,h2⟩<;>rcases key j hj with ⟨h3,h4⟩|⟨h3,h4⟩
  ·exact hs.inj i j b h1 h3
  ·exact (clash i h1 h2 h4).elim
  ·exact (clash j h3 h4 h2).elim
  ·omega
 simp only [List.mem_append,List.mem_singleton] at hb
 rcases hb with hb|hb
 ·exact hs.disj b (hmem b hb) hX
 rcases hx2 b hb.symm with ⟨id,_,h4⟩|h4
 ·exact hs.disj b (List.mem_of_getElem? h4) hX
 ·have:=hs.xlt b hX;omega
theorem c1l{P:Program}(w:World){t u ty e:TypeId}{i:TypeInfo}{z:Value}{size bytes:Nat}(ht:P.underlying t=some (.slice e))(hu:P.underlying u=some (.slice e))(hi:P.info? e=some i)(hz:i.zero=some z)
  (hsize:i.size=size) (hby:i.bytes=bytes) (hzs:z.cells.size=size) (hsz:0<size)
  {v:Value} {n:Nat} {xs:List Value} (hown:w.ownsRow 0 e size v n xs) {A:Option Addr} {m c:Nat} {news:List Value} (hl:news.length=m*size)
  (hsrc:news≠[]->∃a,A=some a/\∀(j:Nat) (u:Value),news[j]?=some u->w.cell? (a.add j)=some u) (h1:∀u∈news,u.oneCell'=true) (h63:n+m<=maxLen) (hbytes:(n+m)*bytes<=140737488355328) :
  ∃v' w',(Builtin.append_ #[t,u] ty #[v,.slice A m c]).run P w=.ok v' w'/\w'.ownsRow 0 e size v' (n+m) (xs++news)/\w.grownBy w' v.ownBlock/\(v'.ownBlock=v.ownBlock\/v'.ownBlock=some w.heap.size) /\
   ∀b s,w.shape? b=some s->w'.shape? b=some s:=by
 subst hsize
 subst hby
 have hut:∀(y:Value),(Builtin.append_ #[t,u] ty #[v,y]).run P w=(Builtin.append_ #[t,t] ty #[v,y]).run P w:=fun y=>by
  obtain ⟨A0,c0,rfl⟩:∃A0 c0,v=.slice A0 n c0:=by
   rcases hown.2 with ⟨rfl,rfl⟩|⟨g,cap,cur,rfl,_⟩<;>exact ⟨_,_,rfl⟩
  simp only [Builtin.append_,Sem.run_bind,run_underlying ht,run_underlying hu,Result.andThen_ok,List.getElem?_toArray,List.getElem?_cons_zero,List.getElem?_cons_succ,Sem.run_pure]
 rw [hut]
 by_cases hm:m=0
 ·subst hm
  have hn:news=[]:=List.eq_nil_of_length_eq_zero (by simpa using hl)
  subst hn
  refine ⟨v,w,?_,by simpa using hown,World.grownBy.refl w _,.inl rfl,fun _ _ h=>h⟩
  rcases hown.2 with ⟨rfl,rfl⟩|⟨g,cap,cur,rfl,_,_,hnc,_⟩
  ·cases A<;>simp [Builtin.append_,run_underlying ht,sizeOf,typeInfo,hi,Builtin.lenOf,Builtin.firstCells,loadCells,loadCellsFrom]
  ·cases A<;>simp [Builtin.append_,run_underlying ht,sizeOf,typeInfo,hi,Builtin.lenOf,Builtin.firstCells,loadCells,loadCellsFrom,hnc,storeCells]
 have hne:news≠[]:=fun h=>by
  rw [h] at hl
  rcases Nat.mul_eq_zero.1 hl.symm with h|h<;>omega
 obtain ⟨a,rfl,hnews⟩:=hsrc hne
 have hsmall:n+m<=9223372036854775807:=by simp only [maxLen] at h63;omega
 have hlen:(xs++news).length=(n+m)*i.size:=by rw [List.length_append,hown.1,hl,Nat.add_mul]
 have grown:∀(old:Nat),old<n+m->∀(row:Option Nat),
   (w.drew.alloc (.cells (xs.toArray++news.toArray++Builtin.zeroCells z.cells (grownCap w (n+m) old e - (n+m))) e)).ownsRow 0 e i.size
    (.slice (some ⟨w.heap.size,0,none⟩) (n+m) (grownCap w (n+m) old e)) (n+m) (xs++news) /\
   w.grownBy (w.drew.alloc (.cells (xs.toArray++news.toArray++Builtin.zeroCells z.cells (grownCap w (n+m) old e - (n+m))) e)) row:=by
  intro old ho row
  have hge:=grownCap_ge w (n+m) old e
  have hcm:grownCap w (n+m) old e<=maxLen:=grownCap_le_maxLen w (n+m) old e h63
  refine ⟨⟨hlen,.inr ⟨w.heap.size,_,_,rfl,Nat.zero_le _,heap_alloc_new w.drew _,hge,hcm,?_,?_⟩⟩,⟨rfl,rfl,rfl,by simp,fun k hk _=>RowKit.Below.heap_alloc w.drew _ k hk⟩⟩
  ·simp only [Array.size_append,List.size_toArray,size_zeroCells,hzs,hown.1,hl,<- Nat.add_mul]
   congr 1
   omega
  simp only [Array.toList_append,List.append_assoc]
  rw [<- List.append_assoc,<- hlen]
  exact List.take_left
 have hshn:∀(o:Obj) b s,w.shape? b=some s->(w.drew.alloc o).shape? b=some s:=fun o b s h=>a5j (w:=w.drew) h
 rcases hown.2 with ⟨rfl,rfl⟩|⟨g,cap,cur,rfl,hbg,hg,hnc,hcm,hcs,htake⟩
 ·have hx:xs=[]:=List.eq_nil_of_length_eq_zero (by simpa using hown.1)
  subst hx
  have hr:=run_append_nil (P:=P) w t ty e i z ht hi hz a m c news hl hnews (by omega) (by omega) (by have hb:=hbytes;simp only [Nat.zero_add] at hb;omega)
  have hgr:=grown 0 (by omega) (Value.ownBlock (.slice none 0 0))
  simp only [Nat.zero_add,List.nil_append,Array.empty_append] at hgr ⊢
  exact ⟨_,_,hr,hgr.1,hgr.2,.inr rfl,hshn _⟩
 by_cases hroom:n+m<=cap
 ·have hfit:n*i.size+news.length<=cur.size:=by rw [hl,hcs,<- Nat.add_mul];exact Nat.mul_le_mul_right _ hroom
  have hr:=run_append_room (P:=P) w t ty e i ht hi g n cap cur hg a m c news hl hnews h1 hroom hfit
  have hsz2:(cur.toList.take (n*i.size)++news++cur.toList.drop (n*i.size+news.length)).toArray.size=cur.size:=by
   simp only [List.size_toArray,List.length_append,List.length_take,List.length_drop,Array.length_toList]
   omega
  refine ⟨_,_,hr,⟨hlen,.inr ⟨g,cap,_,rfl,hbg,setRow_heap w g cur _ e _ hg,hroom,hcm,?_,?_⟩⟩,⟨rfl,rfl,rfl,by simp,fun k _ hk=>setRow_other w g k _ (fun e=>hk (by simp [Value.ownBlock,e]))⟩,.inl rfl,?_⟩
  ·rw [hsz2,hcs]
  ·rw [htake,<- hlen]
   exact List.take_left
  intro b s hs
  by_cases hb:g=b
  ·subst hb
   unfold World.shape? at hs ⊢
   rw [hg] at hs
   rw [setRow_heap w g cur _ e _ hg]
   simp only [Option.some.injEq] at hs ⊢
   rw [hsz2,hs]
  ·unfold World.shape? at hs ⊢
   rw [setRow_other w g b _ (Ne.symm hb)];exact hs
 have holds:∀(j:Nat) (u:Value),xs[j]?=some u->w.cell? ((⟨g,0,none⟩:Addr).add j)=some u:=hown.cells (g:=g) rfl
 have hr:=run_append_grow (P:=P) w t ty e i z ht hi hz ⟨g,0,none⟩ n cap xs hown.1 holds a m c news hl hnews (by omega) (by omega) (growslice_fits (by omega) hbytes)
 have hgr:=grown cap (by omega) (Value.ownBlock (.slice (some ⟨g,0,none⟩) n cap))
 exact ⟨_,_,hr,hgr.1,hgr.2,.inr rfl,hshn _⟩
def a2R(es:List AV):Prop:=∀y∈es,known y=true/\(a0Z y).all a5m=true
theorem a2R.flat{sz:Cx}{m:Mu}{w:World}:∀{es:List AV} {vs:List Value},a2R es->RelL sz m w es vs->∀u∈flat vs,u.oneCell'=true
 | [],_,_,h,u,hu=>by rw [a1l] at h;subst h;simp [Abs.flat] at hu
 | y::es,_,h1,h,u,hu=>by
  rw [a0o] at h
  obtain ⟨v,r,rfl,h2,h3⟩:=h
  have hy:=h1 y (by simp)
  simp only [Abs.flat,List.flatMap_cons,List.mem_append] at hu
  rcases hu with hu|hu
  ·exact a2w (a2z h2 hy.1) hy.2 u hu
  ·exact a2R.flat (fun z hz=>h1 z (by simp [hz])) h3 u hu
theorem a2E{t t' e:TypeId}{x y:Operand}{z es new:List AV}{oid:Option Nat}(ht:Nat.blt t E.n=true)(hk:(E.ti t).k=.sl e)(ht':Nat.blt t' E.n=true)(hk':(E.ti t').k=.sl e)(he:Nat.blt e E.n=true)(hz:(E.ti e).z=some z)
  (hzl:Nat.beq z.length (E.ti e).sz=true) (hz0:Nat.blt 0 (E.ti e).sz=true) (hd:b8y H e (ρ x)=some (oid,es)) (hs:a6O E H (E.ti e).sz (ρ y)=some new) (hone:a2R new)
  (hm:es.length+new.length<=maxLen) (hb:(es.length+new.length)*(E.ti e).bt<=140737488355328) (h:K (.own H.length 0 (es.length+new.length)) (a2V H oid++[some (.arr (es++new) e)])) :
  a0z E ⟨d,.call ⟨.builtin .append,#[x,y],#[t,t']⟩,ty,pos,after,g⟩ ρ H K:=by
 refine a1L (fun m w a hok hr hsim=>?_)
 obtain ⟨v,_,h2,i,h3,h4,h5,h6⟩:=a2G hok he hz
 have hvs:v.cells.size=(E.ti e).sz:=by
  have:=congrArg List.length h2
  simp at this
  rw [this]
  exact Nat.eq_of_beq_eq_true hzl
 obtain ⟨vs,o1,o2,o3,o4⟩:=b8Z hok he hsim (hr x) hd
 obtain ⟨A,c,us,s1,_,s3,s4,s5⟩:=a7m hok hsim (hr y) hs
 obtain ⟨v',w',r1,r2,r3,r4,r5⟩:=c1l (P:=E.P) w (ty:=ty) (a3z hok ht hk) (a3z hok ht' hk') h3 h4 h5 h6 hvs (by simpa using hz0) o1 (A:=A) (c:=c) (by rw [a1k s4,s3.length]) s5 (hone.flat s3) hm hb
 have hoid:∀id,oid=some id->id<m.length:=fun id hid=>by
  subst hid
  cases hx:ρ x with
  | own id' lo n =>
   have h8:=hr x
   rw [hx] at h8
   simp only [Env.Rel,Abs.Rel] at h8
   obtain ⟨_,_,_,_,_,h9,_⟩:=h8
   rw [hx] at hd
   simp only [b8y] at hd
   split at hd
   ·split at hd
    ·simp only [Option.some.injEq,Prod.mk.injEq] at hd
     rw [<- hd.1];exact h9
    ·cases hd
   ·cases hd
  | _=>rw [hx] at hd;simp [b8y] at hd
 have hko:∀u∈vs++us,u.cells.size=(E.ti e).sz:=fun u hu=>by
  simp only [List.mem_append] at hu
  rcases hu with hu|hu
  ·exact o3 u hu
  ·exact s4 u hu
 obtain ⟨m',g1,g2,g3⟩:=b5Y (n:=es.length+new.length) (es:=es++new) (vs:=vs++us) (oid:=oid) hok he hsim o4 hoid (by simp) (by rw [a5a];exact r2) r3 r4 (o2.append s3) hko r5
 refine ⟨v',w',m',_,_,?_,g1,g2,g3,h⟩
 simp only [execOp,resolve,invoke,builtin,Sem.run_bind,Sem.run_pure,Result.andThen_ok,List.map_toArray,List.map_cons,List.map_nil,s1,r1]
end
end Go.Abs
namespace Go.Abs
def a2b(n:Nat):AO->Prop
 | .cells cs _=>a0e n cs
 | .arr es _=>a0e n es
 | .map es=>a0e n (es.map (·.1))/\a0e n (es.map (·.2))
 | .itr _ _=>True
def HOk(n:Nat)(H:Hp):Prop:=∀(id:Nat) (o:AO),H[id]?=some (some o)->a2b n o
section
variable{sz sz2:Cx}{m m2:Mu}{w:World}{H:Hp}
mutual
theorem Rel.ids:∀(x:AV) {v:Value},Rel sz m w x v->a0d m.length x
 | .any,_,_|.int _ _,_,_|.bool _,_,_|.str _,_,_|.nilp,_,_|.nils,_,_|.nilm,_,_|.nilf,_,_|.nili,_,_=>by simp [a0d]
 | .fp cs,_,h=>by simp only [Rel] at h;obtain ⟨_,_,_,h,_⟩:=h;simp only [a0d];exact RelL.ids cs h
 | .ptr _ _,_,h=>by simp only [Rel] at h;obtain ⟨_,_,h,_⟩:=h;simpa [a0d] using h
 | .pe _ _ _,_,h=>by simp only [Rel] at h;obtain ⟨_,_,h⟩:=h;simpa [a0d] using h.1
 | .sl _ es,_,h=>by simp only [Rel] at h;obtain ⟨_,_,_,_,_,_,h,_⟩:=h;simp only [a0d];exact RelL.ids es h
 | .own _ _ _,_,h=>by simp only [Rel] at h;obtain ⟨_,_,_,_,_,h⟩:=h;simpa [a0d] using h.1
 | .mp _,_,h=>by simp only [Rel] at h;obtain ⟨_,_,h,_⟩:=h;simpa [a0d] using h
 | .agg cs,_,h=>by simp only [Rel] at h;obtain ⟨_,_,h⟩:=h;simp only [a0d];exact RelL.ids cs h
 | .tup cs,_,h=>by simp only [Rel] at h;obtain ⟨_,_,h⟩:=h;simp only [a0d];exact RelL.ids cs h
 | .clo _ f c,_,h=>by simp only [Rel] at h;obtain ⟨_,_,_,h,k⟩:=h;simp only [a0d];exact ⟨RelL.ids f h,RelL.ids c k⟩
 | .ifc _ x,_,h=>by simp only [Rel] at h;obtain ⟨_,_,h⟩:=h;simp only [a0d];exact Rel.ids x h
 | .gp _ _,_,_=>by simp [a0d]
theorem RelL.ids:∀(xs:List AV) {vs:List Value},RelL sz m w xs vs->a0e m.length xs
 | [],_,_=>by simp [a0e]
 | x::xs,_,h=>by rw [a0o] at h;obtain ⟨_,_,_,h,k⟩:=h;simp only [a0e];exact ⟨Rel.ids x h,RelL.ids xs k⟩
end
theorem Sim.hok(h:Sim sz m w H):HOk H.length H:=fun id o ho=>by
 obtain ⟨x,hx,hob⟩:=h.live id o ho
 rw [<- h.len]
 cases x with
 | dead=>cases o<;>exact hob.elim
 | nil=>cases o<;>first|exact hob.elim|(simp only [OB] at hob;subst hob;simp [a2b,a0e])
 | blk b =>
  cases o with
  | cells cs e=>obtain ⟨_,_,h⟩:=hob;exact RelL.ids _ h
  | arr es e=>obtain ⟨_,_,_,h,_⟩:=hob;exact RelL.ids _ h
  | map es=>obtain ⟨_,_,_,_,_,h,k⟩:=hob;exact ⟨RelL.ids _ h,RelL.ids _ k⟩
  | itr s p=>exact trivial
structure Cmp(f:Nat->Option Nat)(sz sz2:Cx)(m m2:Mu):Prop where
 szs:sz2.sz=sz.sz
 id:∀i j,f i=some j->i<m.length->j<m2.length/\∀x,x≠.dead->m2[j]?=some x->m[i]?=some x
 sub:∀b,(.blk b∈m2\/sz2.X b)->(.blk b∈m\/sz.X b)
theorem Fz.cmp{f:Nat->Option Nat}(c:Cmp f sz sz2 m m2){A:Option Addr}{us:List Value}(h:Fz sz m w A us):Fz sz2 m2 w A us:=fun hne=>by
 obtain ⟨a,h1,h2,h3,hX,h4⟩:=h hne
 exact ⟨a,h1,h2,fun hm=>(c.sub _ (.inl hm)).elim h3 hX,fun hx=>(c.sub _ (.inr hx)).elim h3 hX,h4⟩
theorem Own.cmp{f:Nat->Option Nat}(c:Cmp f sz sz2 m m2){A:Option Addr}{cp id j lo:Nat}(hf:f id=some j)(h:Own sz m w A cp id lo):Own sz2 m2 w A cp j lo:=by
 obtain ⟨h1,h2⟩:=c.id id j hf h.1
 exact ⟨h1,fun hn=>h.2.1 (h2 _ (by simp) hn),fun b hb=>by rw [c.szs];exact h.2.2 b (h2 _ (by simp) hb)⟩
theorem b8v.cmp{f:Nat->Option Nat}(c:Cmp f sz sz2 m m2){a:Addr}{id j i off:Nat}(hf:f id=some j)(h:b8v sz m w a id i off):b8v sz2 m2 w a j i off:=by
 obtain ⟨h1,h2⟩:=c.id id j hf h.1
 exact ⟨h1,fun b hb=>by rw [c.szs];exact h.2 b (h2 _ (by simp) hb)⟩
mutual
theorem Rel.cmp{f:Nat->Option Nat}(c:Cmp f sz sz2 m m2){n:Nat}(hf:∀i,i<n->f i=some i):∀(x:AV) {v:Value},a0d n x->Rel sz m w x v->Rel sz2 m2 w x v
 | .any,_,_,_=>by simp [Rel]
 | .int _ _,_,_,h|.bool _,_,_,h|.str _,_,_,h|.nilp,_,_,h|.nils,_,_,h|.nilm,_,_,h|.nilf,_,_,h|.nili,_,_,h=>by simpa [Rel] using h
 | .fp cs,_,hi,h=>by
  simp only [Rel] at h ⊢;simp only [a0d] at hi
  obtain ⟨a,us,h1,h2,h3⟩:=h
  exact ⟨a,us,h1,RelL.cmp c hf cs hi h2,h3.cmp c⟩
 | .ptr id off,_,hi,h=>by
  simp only [Rel] at h ⊢;simp only [a0d] at hi
  obtain ⟨a,h1,h2,h3⟩:=h
  obtain ⟨h4,h5⟩:=c.id id id (hf id hi) h2
  exact ⟨a,h1,h4,fun b hb=>h3 b (h5 _ (by simp) hb)⟩
 | .pe id i off,_,hi,h=>by
  simp only [Rel] at h ⊢;simp only [a0d] at hi
  obtain ⟨a,h1,h2⟩:=h
  exact ⟨a,h1,h2.cmp c (hf id hi)⟩
 | .sl k es,_,hi,h=>by
  simp only [Rel] at h ⊢;simp only [a0d] at hi
  obtain ⟨A,cp,vs,h1,h2,h3,h4,h5,h6⟩:=h
  exact ⟨A,cp,vs,h1,h2,h3,RelL.cmp c hf es hi h4,h5,h6.cmp c⟩
 | .own id lo n,_,hi,h=>by
  simp only [Rel] at h ⊢;simp only [a0d] at hi
  obtain ⟨a,cp,h1,h2,h3,h4⟩:=h
  exact ⟨a,cp,h1,h2,h3,h4.cmp c (hf id hi)⟩
 | .mp id,_,hi,h=>by
  simp only [Rel] at h ⊢;simp only [a0d] at hi
  obtain ⟨r,h1,h2,h3⟩:=h
  obtain ⟨h4,h5⟩:=c.id id id (hf id hi) h2
  exact ⟨r,h1,h4,fun b hb=>h3 b (h5 _ (by simp) hb)⟩
 | .agg cs,_,hi,h=>by
  simp only [Rel] at h ⊢;simp only [a0d] at hi
  obtain ⟨us,h1,h2⟩:=h
  exact ⟨us,h1,RelL.cmp c hf cs hi h2⟩
 | .tup cs,_,hi,h=>by
  simp only [Rel] at h ⊢;simp only [a0d] at hi
  obtain ⟨us,h1,h2⟩:=h
  exact ⟨us,h1,RelL.cmp c hf cs hi h2⟩
 | .clo fn f' c',_,hi,h=>by
  simp only [Rel] at h ⊢;simp only [a0d] at hi
  obtain ⟨us,vs,h1,h2,h3⟩:=h
  exact ⟨us,vs,h1,RelL.cmp c hf f' hi.1 h2,RelL.cmp c hf c' hi.2 h3⟩
 | .ifc t x,_,hi,h=>by
  simp only [Rel] at h ⊢;simp only [a0d] at hi
  obtain ⟨u,h1,h2⟩:=h
  exact ⟨u,h1,Rel.cmp c hf x hi h2⟩
 | .gp k zs,_,_,h=>by
  simp only [Rel] at h ⊢
  obtain ⟨b,t,h1,h2,h3⟩:=h
  exact ⟨b,t,h1,h2,h3.cmp c⟩
theorem RelL.cmp{f:Nat->Option Nat}(c:Cmp f sz sz2 m m2){n:Nat}(hf:∀i,i<n->f i=some i):∀(xs:List AV) {vs:List Value},a0e n xs->RelL sz m w xs vs->RelL sz2 m2 w xs vs
 | [],_,_,h=>by simpa [RelL] using h
 | x::xs,_,hi,h=>by
  simp only [RelL] at h ⊢;simp only [a0e] at hi
  obtain ⟨u,r,h1,h2,h3⟩:=h
  exact ⟨u,r,h1,Rel.cmp c hf x hi.1 h2,RelL.cmp c hf xs hi.2 h3⟩
end
end
/-! ### Calls -/
def c3t(E:Env)(m:Mu)(w:World):Prop:=∀g,E.Rel m w (E.G g) (.pointer (some ⟨g,0,none⟩))
def b2x(E:Env)(f:FuncId):Prop:=∃fn,E.P.funcs[f]?=some fn ∧ fn.body.isNone=false ∧ (fn.name == "runtime.NumGoroutine")=false
def a0b(E:Env)(f:FuncId)(args:List AV)(H:Hp)(R:AV->Hp->Prop):Prop :=
 b2x E f/\∀(m:Mu) (w:World) (vs:List Value),E.Ok->c3t E m w->E.RelL m w args vs->E.Sim m w H ->
  Calls E.P f vs.toArray w fun e w'=>∃v m' r H',e=.returned v/\Ext m w m' w'/\E.Rel m' w' r v/\E.Sim m' w' H'/\R r H'
section
variable{E:Env}{N n0:Nat}{Q:Exit->St->Prop}{s:St}{ρ:Operand->AV}{H:Hp}{K:AV->Hp->Prop}
variable{d:Option Tmp}{ty:TypeId}{pos:String}{after:Array Edge}{g:Option (Nat × Bool)}
theorem a0b.mono{f:FuncId}{args:List AV}{R R':AV->Hp->Prop}(h:a0b E f args H R)(k:∀r H',R r H'->R' r H'):a0b E f args H R' :=
 ⟨h.1,fun m w vs h1 h2 h3 h4=>(h.2 m w vs h1 h2 h3 h4).mono fun _ _ ⟨v,m',r,H',a,b,c,d,e⟩=>⟨v,m',r,H',a,b,c,d,k _ _ e⟩⟩
theorem b3E{m:Mu}{w:World}{a:Act}(hr:∀x,E.Rel m w (ρ x) (a.eval x)):∀l:List Operand,E.RelL m w (l.map ρ) (l.map a.eval)
 | []=>by simp [Abs.RelL]
 | x::l=>RelL.cons (hr x) (b3E hr l)
theorem a1c{f:Operand}{args:List Operand}{tys:Array TypeId}{k:FuncId}{cap:List AV}(hG:∀g,ρ (.global g)=E.G g)(hf:ρ f=.clo (.func k) [] cap)
  (h:a0b E k (args.map ρ++cap) H K):a0z E ⟨d,.call ⟨.value f,args.toArray,tys⟩,ty,pos,after,g⟩ ρ H K:=by
 intro m w a hok hr hsim hdf Q
 obtain ⟨⟨fn,hfn,hbody,hname⟩,hcall⟩:=h
 have hff:=hr f
 rw [hf] at hff
 simp only [Env.Rel,Abs.Rel] at hff
 obtain ⟨us,vs,h1,h2,h3⟩:=hff
 rw [a1l] at h2
 subst h2
 have hglob:c3t E m w:=fun g=>by have:=hr (.global g);rw [hG] at this;exact this
 have hargs:E.RelL m w (args.map ρ++cap) (args.map a.eval++vs):=(b3E hr args).append h3
 have hc:=hcall m w _ hok hglob hargs hsim
 unfold Oper.wp
 have hrun:(execOp a.eval ⟨d,.call ⟨.value f,args.toArray,tys⟩,ty,pos,after,g⟩).run E.P w=.ok (.enter k (args.map a.eval++vs).toArray) w:=by
  simp only [execOp,resolve,h1,Deferred.ofValue,Sem.run_bind,Sem.run_pure,Result.andThen_ok,invoke,callFunc,run_program,hfn,hname,hbody,Bool.false_eq_true,if_false]
  simp
 rw [hrun]
 simp only [Oper.upon]
 refine hc.mono ?_
 rintro e w' ⟨v,m',r,H',rfl,h4,h5,h6,h7⟩
 exact ⟨v,rfl,m',r,H',h4,h5,h6,h7⟩
/-! ### The function's boundary -/
def slots(k:Nat):List AV->List (Nat × AV)
 | []=>[]
 | x::xs=>(k,x)::slots (k+1) xs
theorem a5C:∀(args:List AV) (k j:Nat),get (slots k args) j=if k<=j then (args[j - k]?).getD .any else .any
 | [],k,j=>by simp [slots,get]
 | x::xs,k,j=>by
  simp only [slots,a0R]
  by_cases h:k=j
  ·subst h;simp
  rw [if_neg h,a5C xs (k+1) j]
  by_cases h2:k<=j
  ·rw [if_pos (by omega),if_pos h2]
   obtain ⟨q,hq⟩:∃q,j - k=q+1:=⟨j - k - 1,by omega⟩
   rw [hq,show j - (k+1)=q by omega]
   simp
  ·rw [if_neg (by omega),if_neg h2]
def c5X(E:Env)(s:St):ResultVar->Option AV
 | .tmp t=>some (get s.sl t)
 | .cell t ty=>if Nat.blt ty E.n then (a2o s.hp (get s.sl t)).bind (ldA (E.ti ty)) else none
def b4J(E:Env)(s:St):List ResultVar->Option (List AV)
 | []=>some []
 | r::rs=>match c5X E s r,b4J E s rs with
  | some x,some xs=>some (x::xs)
  | _,_=>none
def one:List AV->AV
 | [x]=>x
 | xs=>.tup xs
def b1g(E:Env)(rs:List ResultVar)(R:AV->Hp->Prop):Exit->St->Prop
 | .normal,s|.ret,s=>∃xs,b4J E s rs=some xs/\R (one xs) s.hp
 | _,_=>False
def b3L(tmps:Array Value):ResultVar->Sem Value
 | .tmp t=>pure (tmps.getD t undef)
 | .cell ad t=>do loadVar t (<- asAddr (tmps.getD ad undef))
theorem a6v(fn:Func)(tmps:Array Value):results fn tmps=(do
  let vs <- fn.results.mapM (b3L tmps)
  pure (if h:vs.size=1 then vs[0] else .tuple vs)):=by
 unfold results
 congr 1
theorem a3Q{m:Mu}{w:World}{a:Act}(hs:a2k E N m w s a):∀(rs:List ResultVar) {xs:List AV},b4J E s rs=some xs ->
  ∃vs,(rs.mapM (b3L a.tmps)).run E.P w=.ok vs w/\E.RelL m w xs vs
 | [],xs,h=>by
  simp only [b4J,Option.some.injEq] at h;subst h
  exact ⟨[],by simp,by simp [Abs.RelL]⟩
 | r::rs,xs,h=>by
  simp only [b4J] at h
  split at h
  ·rename_i x ys hx hys
   cases h
   obtain ⟨vs,h1,h2⟩:=a3Q hs rs hys
   cases r with
   | tmp t =>
    simp only [c5X,Option.some.injEq] at hx;subst hx
    exact ⟨a.tmps.getD t undef::vs,by simp only [List.mapM_cons,b3L,Sem.run_bind,Sem.run_pure,Result.andThen_ok,h1],RelL.cons (hs.slots t) h2⟩
   | cell t ty =>
    simp only [c5X] at hx
    split at hx
    ·rename_i hty
     simp only [Option.bind_eq_some_iff] at hx
     obtain ⟨cs,hc,hl⟩:=hx
     obtain ⟨ad,us,h3,h4,h5⟩:=a6E hs.sim hc (hs.slots t)
     obtain ⟨v,h6,h7⟩:=a9H hs.ok hty hl h4 h5
     have h8:(asAddr (a.tmps.getD t undef)).run E.P w=.ok ad w:=by rw [h3];rfl
     exact ⟨v::vs,by simp only [List.mapM_cons,b3L,Sem.run_bind,Sem.run_pure,Result.andThen_ok,h8,h6,h1],RelL.cons h7 h2⟩
    ·cases hx
  ·cases h
theorem a9Z{f:FuncId}{fn:Func}{c:Code}{args:List AV}{R:AV → Hp → Prop}(hf:E.P.funcs[f]?=some fn)(hb:fn.body=some c)(hn:fn.ntmps=N)(hname:(fn.name == "runtime.NumGoroutine")=false)(hl:Nat.ble args.length N=true)
  (h:HOk H.length H->(∀x∈args,a0d H.length x)->AWp E N H.length c (b1g E fn.results.toList R) ⟨slots 0 args,H⟩):a0b E f args H R:=by
 refine ⟨⟨fn,hf,by rw [hb];rfl,hname⟩,fun m w vs hok hglob hargs hsim=>?_⟩
 have hvl:=hargs.length
 have hle:args.length<=N:=Nat.le_of_ble_eq_true hl
 have hids:∀x∈args,a0d H.length x:=fun x hx=>by
  obtain ⟨i,hi,he⟩:=List.getElem_of_mem hx
  obtain ⟨u,_,hu⟩:=hargs.get i (x:=x) (by rw [List.getElem?_eq_getElem hi,he])
  rw [<- hsim.len];exact Rel.ids x hu
 refine calls_of_wp hf hb ?_
 have hs0:a2k E N m w ⟨slots 0 args,H⟩ { tmps:=vs.toArray++Array.replicate (fn.ntmps - vs.toArray.size) undef,defers:=[] }:=by
  refine ⟨hok,fun k=>?_,?_,rfl,hsim,hglob⟩
  ·show Abs.Rel E.cx m w (get (slots 0 args) k) _
   rw [a5C]
   simp only [Nat.zero_le,if_true,Nat.sub_zero]
   cases hk:args[k]? with
   | none=>simp [Abs.Rel]
   | some x =>
    obtain ⟨u,h1,h2⟩:=hargs.get k hk
    have hlt:k<vs.length:=(List.getElem?_eq_some_iff.1 h1).1
    have:(vs.toArray++Array.replicate (fn.ntmps - vs.toArray.size) undef).getD k undef=u:=by
     rw [Array.getD_eq_getD_getElem?,Array.getElem?_append_left (by simpa using hlt)]
     simp [h1]
    show Abs.Rel E.cx m w x ((vs.toArray++Array.replicate (fn.ntmps - vs.toArray.size) undef).getD k undef)
    rw [this]
    exact h2
  ·simp;omega
 refine wp_mono (h hsim.hok hids m w hsim.len m w _ (Ext.refl m w) hs0) ?_
 rintro e a' w' ⟨m',s',h1,h2,h3⟩
 have fin:(∃xs,b4J E s' fn.results.toList=some xs/\R (one xs) s'.hp)->a'.defers=[]/\∃v,(results fn a'.tmps).run E.P w'=.ok v w' /\
   ∃v2 m' r H',Ending.returned v=.returned v2/\Ext m w m' w'/\E.Rel m' w' r v2/\E.Sim m' w' H'/\R r H':=by
  rintro ⟨xs,h4,h5⟩
  obtain ⟨us,h6,h7'⟩:=a3Q h2 fn.results.toList h4
  have h7:Abs.RelL E.cx m' w' xs us:=h7'
  refine ⟨h2.defers,if h:us.toArray.size=1 then us.toArray[0] else .tuple us.toArray,?_,_,m',one xs,s'.hp,rfl,h1,?_,h2.sim,h5⟩
  ·rw [a6v,Array.mapM_eq_mapM_toList]
   simp only [Sem.run_bind,Sem.run_map,h6,Result.andThen_ok,Sem.run_pure]
  have hul:=h7.length
  cases xs with
  | nil =>
   rw [a1l] at h7;subst h7
   show Abs.Rel E.cx m' w' (.tup []) (.tuple #[])
   simp [Abs.Rel,Abs.RelL]
  | cons x xs =>
   cases xs with
   | nil =>
    rw [a0o] at h7
    obtain ⟨u,r,rfl,h8,h9⟩:=h7
    rw [a1l] at h9;subst h9
    simpa [one] using h8
   | cons y ys =>
    have hne:¬ us.toArray.size=1:=by simp [hul]
    rw [dif_neg hne]
    show Abs.Rel _ _ _ _ _
    simp only [one,Abs.Rel]
    exact ⟨us,rfl,h7⟩
 cases e with
 | normal=>exact fin h3
 | ret=>exact fin h3
 | _=>exact h3.elim
/-! ### Freezing and tidying -/
theorem OB.cmp{sz sz2:Cx}{m m2:Mu}{w:World}{f:Nat->Option Nat}(c:Cmp f sz sz2 m m2){n:Nat}(hf:∀i,i<n->f i=some i){o:AO}{x:MS}(hi:a2b n o)(h:OB sz m w o x):OB sz2 m2 w o x:=by
 cases x with
 | dead=>cases o<;>exact h.elim
 | nil=>cases o<;>first|exact h.elim|exact h
 | blk b =>
  cases o with
  | cells cs e=>obtain ⟨us,h1,h2⟩:=h;exact ⟨us,h1,RelL.cmp c hf _ hi h2⟩
  | arr es e=>obtain ⟨us,vs,h1,h2,h3,h4⟩:=h;exact ⟨us,vs,h1,RelL.cmp c hf _ hi h2,fun u hu=>by rw [c.szs];exact h3 u hu,h4⟩
  | map es=>obtain ⟨us,ck,h1,h2,h3,h4,h5⟩:=h;exact ⟨us,ck,h1,h2,h3,RelL.cmp c hf _ hi.1 h4,RelL.cmp c hf _ hi.2 h5⟩
  | itr s p=>exact h
theorem Rel.cmp_all{sz sz2:Cx}{m m2:Mu}{w:World}(c:Cmp some sz sz2 m m2){x:AV}{v:Value}(h:Rel sz m w x v):Rel sz2 m2 w x v:=Rel.cmp c (n:=m.length) (fun _ _=>rfl) x (Rel.ids x h) h
theorem OB.ids{sz:Cx}{m:Mu}{w:World}{o:AO}{x:MS}(h:OB sz m w o x):a2b m.length o:=by
 cases x with
 | dead=>cases o<;>exact h.elim
 | nil=>cases o<;>first|exact h.elim|(simp only [OB] at h;subst h;simp [a2b,a0e])
 | blk b =>
  cases o with
  | cells cs e=>obtain ⟨_,_,h⟩:=h;exact RelL.ids _ h
  | arr es e=>obtain ⟨_,_,_,h,_⟩:=h;exact RelL.ids _ h
  | map es=>obtain ⟨_,_,_,_,_,h,k⟩:=h;exact ⟨RelL.ids _ h,RelL.ids _ k⟩
  | itr s p=>exact trivial
theorem a7H:∀{l:List Nat} {i q:Nat},l.idxOf? i=some q->l[q]?=some i
 | [],i,q,h=>by simp at h
 | x::l,i,q,h=>by
  rw [List.idxOf?_cons] at h
  split at h
  ·rename_i he;cases h;simpa using he
  simp only [Option.map_eq_some_iff] at h
  obtain ⟨r,hr,rfl⟩:=h
  simpa using a7H hr
def frz(id k:Nat)(es:List AV):AV->AV
 | .own i lo n=>if i=id/\lo+n<=es.length then .sl k ((es.drop lo).take n) else .own i lo n
 | v=>v
theorem get_map(f:AV->AV)(hf:f .any=.any):∀(sl:List (Nat × AV)) (k:Nat),get (sl.map fun p=>(p.1,f p.2)) k=f (get sl k)
 | [],_=>by simp [get,hf]
 | (j,v)::r,k=>by
  simp only [List.map_cons,a0R,get_map f hf r k]
  split<;>rfl
theorem a0N{id k:Nat}{es:List AV}{e:TypeId}(ho:s.hp[id]?=some (some (.arr es e)))(he:Nat.blt e E.n=true)(hk:Nat.beq (E.ti e).sz k=true) :
  Imp E N n0 s ⟨s.sl.map fun p=>(p.1,frz id k es p.2),s.hp.set id none⟩:=by
 intro m0 w0 hn m w a hext hs
 have hkk:=Nat.eq_of_beq_eq_true hk
 have hsz2:E.cx.sz e=(E.ti e).sz:=by obtain ⟨_,_,_,_,_,_,_,_,_,h⟩:=a0Q hs.ok he;exact h
 have hid:id<s.hp.length:=(List.getElem?_eq_some_iff.1 ho).1
 have hidm:id<m.length:=by rw [hs.sim.len];exact hid
 have hget:∀(i:Nat) (x:MS),x≠.dead->(m.set id .dead)[i]?=some x->m[i]?=some x/\i≠id:=fun i x hx h=>by
  by_cases hi:id=i
  ·subst hi;rw [List.getElem?_set_self hidm] at h;cases h;exact absurd rfl hx
  ·rw [List.getElem?_set_ne hi] at h;exact ⟨h,Ne.symm hi⟩
 have hsub:∀b,MS.blk b∈m.set id .dead->MS.blk b∈m:=fun b hb=>by
  obtain ⟨i,hi,he⟩:=List.getElem_of_mem hb
  exact List.mem_of_getElem? (hget i _ (by simp) (by rw [List.getElem?_eq_getElem hi,he])).1
 have hc:Cmp some E.cx E.cx m (m.set id .dead):=⟨rfl,fun i j hij hi=>by
  cases hij
  exact ⟨by simpa using hi,fun x hx h=>(hget _ x hx h).1⟩,fun b h=>h.imp (hsub b) (fun h=>h)⟩
 refine ⟨m.set id .dead,⟨hext.os,hext.tape,hext.output,hext.size,hext.keep,fun b hb h=>hext.fresh b hb (hsub b h),by simpa using hext.len,fun i x hi hx h=>hext.ids i x hi hx (hget i x hx h).1,hext.shape⟩,?_⟩
 obtain ⟨q,hq,hob⟩:=hs.sim.live id _ ho
 refine ⟨hs.ok,fun j=>?_,hs.size,hs.defers,?_,fun g=>Rel.cmp_all hc (hs.glob g)⟩
 ·show Abs.Rel E.cx _ w (get (s.sl.map fun p=>(p.1,frz id k es p.2)) j) _
  rw [get_map _ rfl]
  have hj:=hs.slots j
  generalize get s.sl j=v at hj ⊢
  generalize a.tmps.getD j undef=u at hj ⊢
  cases v with
  | own i lo n =>
   simp only [frz]
   split
   ·rename_i hcond
    obtain ⟨rfl,hle⟩:=hcond
    simp only [Env.Rel,Abs.Rel] at hj ⊢
    obtain ⟨A,c,h1,h2,h3,h4,h5,h6⟩:=hj
    have hlen:((es.drop lo).take n).length=n:=by simp;omega
    cases q with
    | dead=>exact hob.elim
    | nil =>
     subst hob
     simp at hle
     obtain ⟨rfl,rfl⟩:=hle
     exact ⟨A,c,[],by simpa using h1,by simp,h3,by simp [Abs.RelL],by simp,by simp [Fz,flat]⟩
    | blk b =>
     obtain ⟨us,vs,h7,h8,h9,h10⟩:=hob
     obtain ⟨e2,k2,h11,h12,h13⟩:=h6 b hq
     have hee:e2=e:=by
      unfold World.shape? at h11
      rw [h7] at h11
      simp at h11
      exact h11.1.symm
     subst hee
     have hk9:∀u∈(vs.drop lo).take n,u.cells.size=k:=fun u hu=>by
      rw [h9 u (List.mem_of_mem_drop (List.mem_of_mem_take hu)),hsz2,hkk]
     have hr8:=(h8.drop lo).take n
     refine ⟨A,c,(vs.drop lo).take n,by rw [hlen];exact h1,by omega,h3,RelL.cmp hc (n:=m.length) (fun _ _=>rfl) _ (RelL.ids _ hr8) hr8,hk9,fun hne=>?_⟩
     have hn0:0<n:=by
      rcases Nat.eq_zero_or_pos n with h0|h0
      ·subst h0;simp [flat] at hne
      ·exact h0
     have hA:=h13 (.inl (by omega))
     refine ⟨_,hA,(Array.getElem?_eq_some_iff.1 h7).1,fun hm=>?_,hs.sim.disj b (List.mem_of_getElem? hq),fun j u hu=>?_⟩
     ·obtain ⟨i2,hi2,he2⟩:=List.getElem_of_mem hm
      obtain ⟨h14,h15⟩:=hget i2 (.blk b) (by simp) (by rw [List.getElem?_eq_getElem hi2,he2])
      exact h15 (hs.sim.inj i2 i b h14 hq)
     have hadd:(⟨b,lo*E.cx.sz e2,none⟩:Addr).add j=⟨b,lo*E.cx.sz e2+j,none⟩:=by unfold Addr.add;split<;>simp_all
     rw [hadd,cell_of_row w b _ us e2 (0,0) h7]
     have h9d:∀u∈vs.drop lo,u.cells.size=E.cx.sz e2:=fun u hu=>h9 u (List.mem_of_mem_drop hu)
     rw [a2B h9d,a4k h9,List.getElem?_take,List.getElem?_drop] at hu
     split at hu
     ·rw [<- h10,List.getElem?_take] at hu
      split at hu
      ·simpa using hu
      ·cases hu
     ·cases hu
   ·exact Rel.cmp_all hc hj
  | _=>exact Rel.cmp_all hc hj
 refine ⟨by simp [hs.sim.len],fun i o hi=>?_,fun i hi=>?_,fun i j b hi hj=>?_,hs.sim.xlt,fun b hb=>hs.sim.disj b (hsub b hb)⟩
 ·by_cases h:id=i
  ·subst h;rw [List.getElem?_set_self hid] at hi;cases hi
  rw [List.getElem?_set_ne h] at hi
  obtain ⟨x,h1,h2⟩:=hs.sim.live i o hi
  exact ⟨x,by rw [List.getElem?_set_ne h];exact h1,h2.cmp hc (n:=m.length) (fun _ _=>rfl) h2.ids⟩
 ·by_cases h:id=i
  ·subst h;rw [List.getElem?_set_self hidm]
  ·rw [List.getElem?_set_ne h] at hi ⊢
   exact hs.sim.dead i hi
 ·exact hs.sim.inj i j b (hget i _ (by simp) hi).1 (hget j _ (by simp) hj).1
def Ren(f:Nat->Option Nat)(v v':AV):Prop:=∀(sz:Cx) (m m2:Mu) (w:World) (u:Value),Cmp f sz sz m m2->Rel sz m w v u->Rel sz m2 w v' u
def b5i(f:Nat->Option Nat)(o o':AO):Prop:=∀(sz:Cx) (m m2:Mu) (w:World) (x:MS),Cmp f sz sz m m2->OB sz m w o x->OB sz m2 w o' x
theorem a7V{f:Nat->Option Nat}{v:AV}(n:Nat)(hf:∀i,i<n->f i=some i)(h:a0d n v):Ren f v v:=fun _ _ _ _ _ c hr=>Rel.cmp c hf v h hr
theorem a0A{f:Nat->Option Nat}{o:AO}(n:Nat)(hf:∀i,i<n->f i=some i)(h:a2b n o):b5i f o o:=fun _ _ _ _ _ c hr=>OB.cmp c hf h hr
theorem a0L{f:Nat->Option Nat}{id j lo n:Nat}(h:f id=some j):Ren f (.own id lo n) (.own j lo n):=fun sz m m2 w u c hr=>by
 simp only [Rel] at hr ⊢
 obtain ⟨A,cp,h1,h2,h3,h4⟩:=hr
 exact ⟨A,cp,h1,h2,h3,h4.cmp c h⟩
theorem a1h{f:Nat->Option Nat}{id j off:Nat}(h:f id=some j):Ren f (.ptr id off) (.ptr j off):=fun sz m m2 w u c hr=>by
 simp only [Rel] at hr ⊢
 obtain ⟨a,h1,h2,h3⟩:=hr
 obtain ⟨h4,h5⟩:=c.id id j h h2
 exact ⟨a,h1,h4,fun b hb=>h3 b (h5 _ (by simp) hb)⟩
theorem c4K{f:Nat->Option Nat}{id j:Nat}(h:f id=some j):Ren f (.mp id) (.mp j):=fun sz m m2 w u c hr=>by
 simp only [Rel] at hr ⊢
 obtain ⟨r,h1,h2,h3⟩:=hr
 obtain ⟨h4,h5⟩:=c.id id j h h2
 exact ⟨r,h1,h4,fun b hb=>h3 b (h5 _ (by simp) hb)⟩
inductive a4x(f:Nat->Option Nat):List AV->List AV->Prop where
 | nil:a4x f [] []
 | cons {v v':AV} {l l':List AV} (h:Ren f v v') (t:a4x f l l'):a4x f (v::l) (v'::l')
theorem a4x.rel{f:Nat->Option Nat}{l l':List AV}(h:a4x f l l'){sz:Cx}{m m2:Mu}{w:World}(c:Cmp f sz sz m m2):∀{us:List Value},RelL sz m w l us->RelL sz m2 w l' us:=by
 induction h with
 | nil=>intro us h;simpa [RelL] using h
 | cons h t ih =>
  intro us hr
  rw [a0o] at hr
  obtain ⟨u,r,rfl,h1,h2⟩:=hr
  exact RelL.cons (h _ _ _ _ _ c h1) (ih h2)
theorem a1y{f:Nat->Option Nat}{l l':List AV}{e:TypeId}(h:a4x f l l'):b5i f (.cells l e) (.cells l' e):=fun sz m m2 w x c hr=>by
 cases x with
 | blk b=>obtain ⟨us,h1,h2⟩:=hr;exact ⟨us,h1,h.rel c h2⟩
 | _=>exact hr.elim
def gcF(k:Nat)(ids:List Nat)(i:Nat):Option Nat:=if i<k then some i else (ids.idxOf? i).map (·+k)
theorem a2m{k:Nat}{ids:List Nat}:∀i,i<k->gcF k ids i=some i:=fun i h=>by simp [gcF,h]
theorem b3f(k:Nat)(ids:List Nat)(sl':List (Nat × AV))(os:List AO)(hk:n0<=k)(hkl:k<=s.hp.length)(hnd:ids.Nodup)(hge:∀i∈ids,k<=i)(hpre:HOk k (s.hp.take k))
  (hsl:∀p∈sl',Ren (gcF k ids) (get s.sl p.1) p.2) (hlen:os.length=ids.length)
  (hos:∀(j i:Nat) (o':AO),ids[j]?=some i->os[j]?=some o'->∃o,s.hp[i]?=some (some o)/\b5i (gcF k ids) o o'):Imp E N n0 s ⟨sl',s.hp.take k++os.map some⟩:=by
 intro m0 w0 hn m w a hext hs
 have hml:=hs.sim.len
 have hdef:∀i∈ids,i<m.length:=fun i hi=>by
  obtain ⟨j,hj,he⟩:=List.getElem_of_mem hi
  have h1:ids[j]?=some i:=by rw [List.getElem?_eq_getElem hj,he]
  obtain ⟨o,ho,_⟩:=hos j i os[j] h1 (List.getElem?_eq_getElem (by omega))
  rw [hml];exact (List.getElem?_eq_some_iff.1 ho).1
 have hm2:∀(j:Nat) (x:MS),(m.take k++ids.map fun i=>(m[i]?).getD .dead)[j]?=some x->(j<k/\m[j]?=some x)\/(k<=j/\∃i,ids[j - k]?=some i/\m[i]?=some x):=fun j x h=>by
  have hkm:(m.take k).length=k:=by simp;omega
  rcases Nat.lt_or_ge j k with hj|hj
  ·rw [List.getElem?_append_left (by omega),List.getElem?_take,if_pos hj] at h
   exact .inl ⟨hj,h⟩
  rw [List.getElem?_append_right (by omega),hkm,List.getElem?_map] at h
  cases hi:ids[j - k]? with
  | none=>rw [hi] at h;cases h
  | some i =>
   rw [hi] at h
   have hlt:=hdef i (List.mem_of_getElem? hi)
   simp only [Option.map_some,List.getElem?_eq_getElem hlt,Option.getD_some,Option.some.injEq] at h
   exact .inr ⟨hj,i,rfl,by rw [List.getElem?_eq_getElem hlt,h]⟩
 have hl2:(m.take k++ids.map fun i=>(m[i]?).getD .dead).length=k+ids.length:=by simp;omega
 have hidx:∀i j,gcF k ids i=some j->(i<k/\j=i)\/(k<=j/\ids[j - k]?=some i):=fun i j h=>by
  unfold gcF at h
  split at h
  ·rename_i hi;cases h;exact .inl ⟨hi,rfl⟩
  simp only [Option.map_eq_some_iff] at h
  obtain ⟨q,hq,rfl⟩:=h
  refine .inr ⟨by omega,?_⟩
  rw [Nat.add_sub_cancel]
  exact a7H hq
 have hsub:∀b,MS.blk b∈(m.take k++ids.map fun i=>(m[i]?).getD .dead)->MS.blk b∈m:=fun b hb=>by
  obtain ⟨j,hj,he⟩:=List.getElem_of_mem hb
  rcases hm2 j _ (by rw [List.getElem?_eq_getElem hj,he]) with ⟨_,h⟩|⟨_,i,_,h⟩<;>exact List.mem_of_getElem? h
 have hc:Cmp (gcF k ids) E.cx E.cx m (m.take k++ids.map fun i=>(m[i]?).getD .dead):=⟨rfl,fun i j hij hi=>by
  rcases hidx i j hij with ⟨h1,rfl⟩|⟨h1,h2⟩
  ·refine ⟨by rw [hl2];omega,fun x _ h=>?_⟩
   rcases hm2 j x h with ⟨_,h⟩|⟨h,_⟩
   ·exact h
   ·omega
  refine ⟨by rw [hl2];have:=(List.getElem?_eq_some_iff.1 h2).1;omega,fun x _ h=>?_⟩
  rcases hm2 j x h with ⟨h,_⟩|⟨_,i',h3,h4⟩
  ·omega
  ·rw [h2] at h3;cases h3;exact h4,fun b h=>h.imp (hsub b) (fun h=>h)⟩
 refine ⟨_,⟨hext.os,hext.tape,hext.output,hext.size,hext.keep,fun b hb h=>hext.fresh b hb (hsub b h),by rw [hl2];omega,fun i x hi hx h=>?_,hext.shape⟩,?_⟩
 ·refine hext.ids i x hi hx ?_
  rcases hm2 i x h with ⟨_,h⟩|⟨h,_⟩
  ·exact h
  ·omega
 refine ⟨hs.ok,fun j=>?_,hs.size,hs.defers,?_,fun g=>?_⟩
 ·have key:∀l:List (Nat × AV),(∀p∈l,Ren (gcF k ids) (get s.sl p.1) p.2)->get l j=.any\/Ren (gcF k ids) (get s.sl j) (get l j):=by
   intro l
   induction l with
   | nil=>intro _;exact .inl rfl
   | cons p r ih =>
    intro h
    obtain ⟨q,v⟩:=p
    rw [a0R]
    split
    ·rename_i hq;subst hq;exact .inr (h (q,v) (by simp))
    ·exact ih fun p hp=>h p (by simp [hp])
  show Abs.Rel E.cx _ w (get sl' j) _
  rcases key sl' hsl with h|h
  ·rw [h];simp [Abs.Rel]
  ·exact h _ _ _ _ _ hc (hs.slots j)
 ·have hHk:(s.hp.take k).length=k:=by simp;omega
  have hH:∀(j:Nat) (o:Option AO),(s.hp.take k++os.map some)[j]?=some o->(j<k/\s.hp[j]?=some o)\/(k<=j/\∃o',os[j - k]?=some o'/\o=some o'):=fun j o h=>by
   rcases Nat.lt_or_ge j k with hj|hj
   ·rw [List.getElem?_append_left (by omega),List.getElem?_take,if_pos hj] at h
    exact .inl ⟨hj,h⟩
   rw [List.getElem?_append_right (by omega),hHk,List.getElem?_map] at h
   cases ho:os[j - k]? with
   | none=>rw [ho] at h;cases h
   | some o'=>rw [ho] at h;simp at h;exact .inr ⟨hj,o',rfl,h.symm⟩
  refine ⟨by rw [hl2];simp;omega,fun j o ho=>?_,fun j ho=>?_,fun i j b hi hj=>?_,hs.sim.xlt,fun b hb=>hs.sim.disj b (hsub b hb)⟩
  ·rcases hH j _ ho with ⟨h1,h2⟩|⟨h1,o',h2,h3⟩
   ·obtain ⟨x,h4,h5⟩:=hs.sim.live j o h2
    refine ⟨x,?_,h5.cmp hc a2m (hpre j o (by rw [List.getElem?_take,if_pos h1];exact h2))⟩
    rw [List.getElem?_append_left (by simp;omega),List.getElem?_take,if_pos h1];exact h4
   cases h3
   have hjl:j - k<ids.length:=by rw [<- hlen];exact (List.getElem?_eq_some_iff.1 h2).1
   obtain ⟨o2,h4,h5⟩:=hos (j - k) ids[j - k] o (List.getElem?_eq_getElem hjl) h2
   obtain ⟨x,h6,h7⟩:=hs.sim.live _ _ h4
   refine ⟨x,?_,h5 _ _ _ _ _ hc h7⟩
   rw [List.getElem?_append_right (by simp;omega)]
   rw [show j - (m.take k).length=j - k by simp;omega,List.getElem?_map,List.getElem?_eq_getElem hjl]
   simp [h6]
  ·rcases hH j _ ho with ⟨h1,h2⟩|⟨h1,o',h2,h3⟩
   ·rw [List.getElem?_append_left (by simp;omega),List.getElem?_take,if_pos h1];exact hs.sim.dead j h2
   ·cases h3
  rcases hm2 i _ hi with ⟨h1,h2⟩|⟨h1,i',h2,h3⟩<;>rcases hm2 j _ hj with ⟨h4,h5⟩|⟨h4,j',h5,h6⟩
  ·exact hs.sim.inj i j b h2 h5
  ·have:=hs.sim.inj i j' b h2 h6;have:=hge j' (List.mem_of_getElem? h5);omega
  ·have:=hs.sim.inj i' j b h3 h5;have:=hge i' (List.mem_of_getElem? h2);omega
  have h7:=hs.sim.inj i' j' b h3 h6
  subst h7
  obtain ⟨p1,p2⟩:=List.getElem?_eq_some_iff.1 h2
  obtain ⟨p3,p4⟩:=List.getElem?_eq_some_iff.1 h5
  have hpw:=List.pairwise_iff_getElem.1 hnd
  rcases Nat.lt_trichotomy (i - k) (j - k) with h|h|h
  ·exact absurd (p2.trans p4.symm) (hpw _ _ p1 p3 h)
  ·omega
  ·exact absurd (p4.trans p2.symm) (hpw _ _ p3 p1 h)
 ·exact Rel.cmp hc (n:=0) (fun _ h=>absurd h (Nat.not_lt_zero _)) _ (hs.ok.2.2 g) (hs.glob g)
theorem imp_nil(k:Nat)(e:TypeId)(hk:get s.sl k=.nils):Imp E N n0 s ⟨(k,.own s.hp.length 0 0)::s.sl,s.hp++[some (.arr [] e)]⟩:=by
 intro m0 w0 hn m w a hext hs
 have hml:=hs.sim.len
 have hget:∀(i:Nat) (x:MS),(m++[.nil])[i]?=some x->m[i]?=some x\/(i=m.length/\x=.nil):=fun i x h=>by
  rcases Nat.lt_or_ge i m.length with hl|hg
  ·rw [List.getElem?_append_left hl] at h;exact .inl h
  rw [List.getElem?_append_right hg] at h
  have h0:i - m.length=0:=by
   rcases Nat.eq_zero_or_pos (i - m.length) with h0|h0
   ·exact h0
   ·rw [List.getElem?_eq_none (by simp;omega)] at h;cases h
  rw [h0] at h
  simp at h
  exact .inr ⟨by omega,h.symm⟩
 have hsub:∀b,MS.blk b∈m++[.nil]->MS.blk b∈m:=fun b hb=>by simpa using hb
 have he:Ext m w (m++[.nil]) w:=⟨rfl,rfl,rfl,Nat.le_refl _,fun _ _ _=>rfl,fun b _ h=>hsub b h,by simp,fun i x hi hx h=>by rwa [List.getElem?_append_left hi] at h,fun _ _ h=>h⟩
 refine ⟨m++[.nil],hext.trans he,hs.ok,fun j=>?_,hs.size,hs.defers,?_,fun g=>(hs.glob g).ext he⟩
 ·show Abs.Rel E.cx _ w (get ((k,.own s.hp.length 0 0)::s.sl) j) _
  rw [a0R]
  split
  ·rename_i hkj
   subst hkj
   have h1:=hs.slots k
   rw [hk] at h1
   simp only [Env.Rel,Abs.Rel] at h1 ⊢
   have hlast:(m++[MS.nil])[s.hp.length]?=some .nil:=by rw [<- hml];simp
   refine ⟨none,0,h1,Nat.le_refl _,Nat.zero_le _,by simp [hml],fun _=>⟨rfl,rfl⟩,fun b hb=>?_⟩
   rw [hlast] at hb;cases hb
  ·exact (hs.slots j).ext he
 refine ⟨by simp [hml],fun i o ho=>?_,fun i ho=>?_,fun i j b hi hj=>?_,hs.sim.xlt,fun b hb=>hs.sim.disj b (hsub b hb)⟩
 ·rcases Nat.lt_or_ge i s.hp.length with hl|hg
  ·rw [List.getElem?_append_left hl] at ho
   obtain ⟨x,h1,h2⟩:=hs.sim.live i o ho
   exact ⟨x,by rw [List.getElem?_append_left (hml ▸ hl)];exact h1,h2.ext he fun _ _=>rfl⟩
  rw [List.getElem?_append_right hg] at ho
  have h0:i - s.hp.length=0:=by
   rcases Nat.eq_zero_or_pos (i - s.hp.length) with h0|h0
   ·exact h0
   ·rw [List.getElem?_eq_none (by simp;omega)] at ho;cases ho
  rw [h0] at ho
  simp at ho
  subst ho
  refine ⟨.nil,?_,rfl⟩
  rw [List.getElem?_append_right (by omega),hml,h0];rfl
 ·rcases Nat.lt_or_ge i s.hp.length with hl|hg
  ·rw [List.getElem?_append_left hl] at ho
   rw [List.getElem?_append_left (hml ▸ hl)]
   exact hs.sim.dead i ho
  rw [List.getElem?_append_right hg] at ho
  have h0:i - s.hp.length=0:=by
   rcases Nat.eq_zero_or_pos (i - s.hp.length) with h0|h0
   ·exact h0
   ·rw [List.getElem?_eq_none (by simp;omega)] at ho;cases ho
  rw [h0] at ho
  simp at ho
 ·rcases hget i _ hi with h1|⟨_,h1⟩<;>rcases hget j _ hj with h2|⟨_,h2⟩<;>first|exact hs.sim.inj i j b h1 h2|cases h1|cases h2
/-! Guards and tests that are not decided yet -/
theorem a8q{ops:Array Oper}{K:St->Prop}{o:Oper}{rest:List Oper}{d:Nat}{b:Bool}(hb:get s.sl d=.bool b)
  (ht:b=true->a1p E ops (o::rest) K ⟨(d,.bool true)::s.sl,s.hp⟩) (hf:b=false->a1p E ops (o::rest) K ⟨(d,.bool false)::s.sl,s.hp⟩):a1p E ops (o::rest) K s:=by
 have key:∀c,b=c->∀k,get s.sl k=get ((d,.bool c)::s.sl) k:=fun c hc k=>by
  rw [a0R]
  split
  ·rename_i e;rw [<- e,hb,hc]
  ·rfl
 cases h:b with
 | true=>exact a3G (key true h) (ht h)
 | false=>exact a3G (key false h) (hf h)
theorem a8k{ops:Array Oper}{K:St->Prop}{o:Oper}{rest:List Oper}{d:Nat}{p:Prop}[Decidable p](_hg:b4u ops o=some d)(hb:get s.sl d=.bool (decide p))
  (ht:p->a1p E ops (o::rest) K ⟨(d,.bool true)::s.sl,s.hp⟩) (hf:¬ p->a1p E ops (o::rest) K ⟨(d,.bool false)::s.sl,s.hp⟩):a1p E ops (o::rest) K s :=
 a8q hb (fun h=>ht (of_decide_eq_true h)) (fun h=>hf (of_decide_eq_false h))
theorem a0r{n:Int}(h1:-9223372036854775808<=n)(h2:n<=9223372036854775807):IntKind.i64.wrap n=n:=by rw [IntKind.wrap_i64];omega
end
end Go.Abs
