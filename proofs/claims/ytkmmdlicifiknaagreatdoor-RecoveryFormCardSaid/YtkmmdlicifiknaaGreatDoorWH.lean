/- Maps with integer or string keys as lists of pairs: lookup, update, delete. Joined texts, each with what its own name promises; no condition beyond those stated. -/
import Derived.Test.YtkmmdlicifiknaaGreatDoorWB
import Derived.Test.YtkmmdlicifiknaaGreatDoorWG
import Derived.Test.YtkmmdlicifiknaaGreatDoorWC
import Derived.Test.YtkmmdlicifiknaaGreatDoorWF
set_option maxHeartbeats 0
set_option maxRecDepth 100000
set_option linter.all false
namespace Go.Abs
open Go.MapKept
structure b9G(κ:Type) where
 tk:TK
 td:TypeDesc
 av:κ->AV
 val:κ->Value
 inj:∀a b,val a=val b->a=b
 key:∀a,IsKey td (val a)
 rel:∀(sz:Cx) (m:Mu) (w:World) (a:κ) (v:Value),Rel sz m w (av a) v ↔ v=val a
 ty:∀(E:Env) (t:TypeId),E.Ok->Nat.blt t E.n=true->(E.ti t).k=tk->E.P.underlying t=some td
def c2W:b9G (List UInt8) where
 tk:=.str
 td:=.string
 av:=.str
 val:=fun s=>.string ⟨s.toArray⟩
 inj:=fun a b h=>by simpa using h
 key:=fun _=>trivial
 rel:=fun _ _ _ _ _=>by simp [Rel]
 ty:=fun _ _ h1 h2 h3=>a7j h1 h2 h3
section
variable{κ α:Type}[DecidableEq κ]
def lkp(l:List (κ × α))(k:κ):Option α:=(l.find? fun p=>decide (p.1=k)).map (·.2)
def b9n(l:List (κ × α))(k:κ)(a:α):List (κ × α):=match l.findIdx? fun p=>decide (p.1=k) with
 | some j=>l.set j (k,a)
 | none=>l++[(k,a)]
theorem a9S{l:List (κ × α)}(hn:(l.map (·.1)).Nodup){k:κ}{a:α}:lkp l k=some a ↔ (k,a)∈l:=by
 unfold lkp
 constructor
 ·intro h
  obtain ⟨p,hp,rfl⟩:=Option.map_eq_some_iff.1 h
  have h1:=List.find?_some hp
  have h2:=List.mem_of_find?_eq_some hp
  simp only [decide_eq_true_eq] at h1
  subst h1
  exact h2
 intro h
 induction l with
 | nil=>cases h
 | cons p l ih =>
  simp only [List.map_cons,List.nodup_cons] at hn
  rw [List.find?_cons]
  by_cases hk:p.1=k
  ·simp only [hk,decide_true,Option.map_some]
   rcases List.mem_cons.1 h with h|h
   ·rw [<- h]
   ·exact absurd (List.mem_map_of_mem (f:=(·.1)) h) (by rw [<- hk];exact hn.1)
  simp only [hk,decide_false]
  rcases List.mem_cons.1 h with h|h
  ·rw [<- h] at hk;exact absurd rfl hk
  ·exact ih hn.2 h
theorem a9R{l:List (κ × α)}{k:κ}:lkp l k=none ↔ k ∉ l.map (·.1):=by
 unfold lkp
 rw [Option.map_eq_none_iff,List.find?_eq_none]
 constructor
 ·intro h hm
  obtain ⟨p,hp,hk⟩:=List.mem_map.1 hm
  exact h p hp (by simp [hk])
 intro h p hp hk
 simp only [decide_eq_true_eq] at hk
 exact h (List.mem_map.2 ⟨p,hp,hk⟩)
theorem c2H{β:Type}{l:List β}(h:l.Nodup){i j:Nat}(hi:i<l.length)(he:l[i]?=l[j]?):i=j:=by
 have h2:j<l.length:=by
  rw [List.getElem?_eq_getElem hi] at he
  exact (List.getElem?_eq_some_iff.1 he.symm).1
 rw [List.getElem?_eq_getElem hi,List.getElem?_eq_getElem h2] at he
 exact (List.getElem_inj h).1 (Option.some.inj he)
theorem c2B{l:List (κ × α)}(hn:(l.map (·.1)).Nodup){j:Nat}{p:κ × α}(hj:l[j]?=some p):(l.findIdx? fun q=>decide (q.1=p.1))=some j:=by
 obtain ⟨hl,he⟩:=List.getElem?_eq_some_iff.1 hj
 rw [List.findIdx?_eq_some_iff_getElem]
 refine ⟨hl,by simp [he],fun i hi=>?_⟩
 simp only [decide_eq_true_eq]
 intro h
 have h1:(l.map (·.1))[i]?=(l.map (·.1))[j]?:=by
  rw [List.getElem?_map,List.getElem?_map,List.getElem?_eq_getElem (by omega),hj,Option.map_some,Option.map_some,h]
 have:=c2H hn (by rw [List.length_map];omega) h1
 omega
theorem c6F{l:List (κ × α)}{k:κ}(h:k ∉ l.map (·.1)):(l.findIdx? fun q=>decide (q.1=k))=none:=by
 rw [List.findIdx?_eq_none_iff]
 intro p hp
 simp only [decide_eq_false_iff_not]
 intro hk
 exact h (List.mem_map.2 ⟨p,hp,hk⟩)
theorem b1J{l:List (κ × α)}(hn:(l.map (·.1)).Nodup)(k:κ)(a:α):((b9n l k a).map (·.1)).Nodup:=by
 unfold b9n
 split
 ·rename_i j hj
  rw [List.findIdx?_eq_some_iff_getElem] at hj
  obtain ⟨h1,h2,_⟩:=hj
  simp only [decide_eq_true_eq] at h2
  rw [List.map_set]
  have:(l.map (·.1)).set j k=l.map (·.1):=by
   apply List.ext_getElem?
   intro i
   rw [List.getElem?_set]
   split
   ·rename_i hij
    subst hij
    rw [if_pos (by simpa using h1),List.getElem?_map,List.getElem?_eq_getElem h1,Option.map_some,h2]
   ·rfl
  rw [this];exact hn
 rename_i hj
 rw [List.map_append,List.nodup_append]
 refine ⟨hn,by simp,fun x hx y hy e=>?_⟩
 simp only [List.map_cons,List.map_nil,List.mem_singleton] at hy
 subst e hy
 obtain ⟨p,hp,hk⟩:=List.mem_map.1 hx
 rw [List.findIdx?_eq_none_iff] at hj
 have:=hj p hp
 simp [hk] at this
theorem c1V{l:List (κ × α)}(hn:(l.map (·.1)).Nodup){k:κ}{a:α}{p:κ × α}:p∈b9n l k a ↔ if p.1=k then p.2=a else p∈l:=by
 have hh:∀j,(l.findIdx? fun q=>decide (q.1=k))=some j->∃q,l[j]?=some q/\q.1=k:=fun j hj=>by
  rw [List.findIdx?_eq_some_iff_getElem] at hj
  obtain ⟨h1,h2,_⟩:=hj
  simp only [decide_eq_true_eq] at h2
  exact ⟨_,List.getElem?_eq_getElem h1,h2⟩
 have hkn:=b1J hn k a
 unfold b9n at hkn ⊢
 split at hkn
 ·rename_i j hj
  obtain ⟨q,hq,hqk⟩:=hh j hj
  have hjl:=(List.getElem?_eq_some_iff.1 hq).1
  have hself:(k,a)∈l.set j (k,a):=List.mem_of_getElem? (i:=j) (List.getElem?_set_self hjl)
  constructor
  ·intro h
   obtain ⟨i,hi⟩:=List.getElem?_of_mem h
   by_cases hij:j=i
   ·subst hij
    rw [List.getElem?_set_self hjl] at hi;cases hi
    simp
   rw [List.getElem?_set_ne hij] at hi
   have hne:p.1≠k:=fun e=>by
    have:=c2B hn hi
    rw [e,hj] at this
    exact hij (Option.some.inj this)
   rw [if_neg hne]
   exact List.mem_of_getElem? hi
  intro h
  split at h
  ·rename_i hk
   have:p=(k,a):=Prod.ext hk h
   rw [this];exact hself
  rename_i hk
  obtain ⟨i,hi⟩:=List.getElem?_of_mem h
  have hij:j≠i:=fun e=>by
   subst e
   rw [hq] at hi;cases hi
   exact hk hqk
  exact List.mem_of_getElem? (i:=i) (by rw [List.getElem?_set_ne hij];exact hi)
 rename_i hj
 rw [List.mem_append,List.mem_singleton]
 rw [List.findIdx?_eq_none_iff] at hj
 split
 ·rename_i hk
  refine ⟨fun h=>h.elim (fun h=>absurd (hj p h) (by simp [hk])) (fun h=>by rw [h]),fun h=>.inr (Prod.ext hk h)⟩
 ·rename_i hk
  exact ⟨fun h=>h.elim id fun h=>absurd (by rw [h]) hk,.inl⟩
end
section
variable{E:Env}{ρ:Operand->AV}{H:Hp}{K:AV->Hp->Prop}
variable{d:Option Tmp}{ty:TypeId}{pos:String}{after:Array Edge}{g:Option (Nat × Bool)}
variable{κ α:Type}[DecidableEq κ]
def mapA(k:b9G κ)(f:α->AV)(l:List (κ × α)):AO:=.map (l.map fun p=>(k.av p.1,f p.2))
theorem a8v(kk:b9G κ){sz:Cx}{m:Mu}{w:World}:∀{ns:List κ} {vs:List Value},RelL sz m w (ns.map kk.av) vs->vs=ns.map kk.val
 | [],_,h=>by simpa [RelL] using h
 | n::ns,_,h=>by
  simp only [List.map_cons,RelL] at h
  obtain ⟨u,r,rfl,h1,h2⟩:=h
  rw [kk.rel] at h1
  rw [h1,a8v kk h2];rfl
theorem a6g(kk:b9G κ){sz:Cx}{m:Mu}{w:World}:∀ns:List κ,RelL sz m w (ns.map kk.av) (ns.map kk.val)
 | []=>by simp [RelL]
 | n::ns=>RelL.cons ((kk.rel _ _ _ _ _).2 rfl) (a6g kk ns)
theorem b0c{kk:b9G κ}{f:α->AV}{l:List (κ × α)}{m:Mu}{w:World}{id:Nat}{v:Value}(hsim:E.Sim m w H)(ho:H[id]?=some (some (mapA kk f l)))(hv:E.Rel m w (.mp id) v) :
  ∃b us clock,v=.map (some b)/\m[id]?=some (.blk b)/\w.heap[b]?=some (.map us clock)/\(∀e∈us,e.born<clock)/\(us.toList.map (·.born)).Nodup /\
   us.toList.map (·.key)=l.map (fun p=>kk.val p.1)/\E.RelL m w (l.map fun p=>f p.2) (us.toList.map (·.val)):=by
 obtain ⟨b,us,clock,h2,h3,h4,h5,h6,h7,h8⟩:=b7E hsim ho hv
 refine ⟨b,us,clock,h2,h3,h4,h5,h6,?_,by rw [List.map_map] at h8;exact h8⟩
 have h9:(l.map fun p=>(kk.av p.1,f p.2)).map (·.1)=(l.map (·.1)).map kk.av:=by simp
 rw [h9] at h7
 rw [a8v kk h7];simp
theorem b0U{kk:b9G κ}{l:List (κ × α)}{us:Array MapEntry}(h:us.toList.map (·.key)=l.map (fun p=>kk.val p.1))(hn:(l.map (·.1)).Nodup)(k:κ) :
  (Instr.findNow kk.td (kk.val k) us.toList 0=some none/\k ∉ l.map (·.1)) \/
   ∃j e a,Instr.findNow kk.td (kk.val k) us.toList 0=some (some (j,e.val))/\us.toList[j]?=some e/\e.key=kk.val k/\l[j]?=some (k,a)/\(l.findIdx? fun q=>decide (q.1=k))=some j:=by
 have hik:∀x∈us.toList,IsKey kk.td x.key:=fun x hx=>by
  have:x.key∈us.toList.map (·.key):=List.mem_map_of_mem hx
  rw [h] at this
  obtain ⟨q,_,hq⟩:=List.mem_map.1 this
  rw [<- hq];exact kk.key _
 rcases findNow_spec (kk.key k) us.toList 0 hik with ⟨f1,f2⟩|⟨j,e,f1,f2,f3⟩
 ·refine .inl ⟨f1,fun hm=>?_⟩
  obtain ⟨p,hp,rfl⟩:=List.mem_map.1 hm
  have h1:kk.val p.1∈us.toList.map (·.key):=by rw [h];exact List.mem_map_of_mem hp
  obtain ⟨x,hx,hxk⟩:=List.mem_map.1 h1
  exact f2 x hx hxk
 right
 have h1:(l.map fun p=>kk.val p.1)[j]?=some (kk.val k):=by rw [<- h,List.getElem?_map,f2,Option.map_some,f3]
 rw [List.getElem?_map,Option.map_eq_some_iff] at h1
 obtain ⟨⟨q,a⟩,hq,hqe⟩:=h1
 obtain rfl:=kk.inj _ _ hqe
 have f1':Instr.findNow kk.td (kk.val q) us.toList 0=some (some (j,e.val)):=by simpa using f1
 exact ⟨j,e,a,f1',f2,f3,hq,c2B hn hq⟩
theorem c7I{kk:b9G κ}{f:α->AV}{l:List (κ × α)}{k:κ}{t kt et:TypeId}{x i:Operand}{id:Nat}{c:Bool}{z:Value}
  (ht:Nat.blt t E.n=true) (hk:(E.ti t).k=.map kt et) (hkt:Nat.blt kt E.n=true) (hkk:(E.ti kt).k=kk.tk) (hz:lkp l k=none->(E.P.info? et).bind (·.zero)=some z) (hx:ρ x=.mp id) (ho:H[id]?=some (some (mapA kk f l)))
  (hi:ρ i=kk.av k) (hn:(l.map (·.1)).Nodup) (h:K (if c then .tup [((lkp l k).map f).getD (ofV z),.bool (lkp l k).isSome] else ((lkp l k).map f).getD (ofV z)) H):a0B E ⟨d,.lookup t x i c,ty,pos,after,g⟩ ρ H K:=by
 refine a0K _ (fun m w a hok hr hsim=>?_) h
 have h1:=hr x
 have hii:=hr i
 rw [hx] at h1
 rw [hi] at hii
 have hii:=(kk.rel _ _ _ _ _).1 hii
 obtain ⟨b,us,clock,h2,h3,h4,h5,h6,h7,h8⟩:=b0c hsim ho h1
 have hd:=kk.ty E kt hok hkt hkk
 have hzv:lkp l k=none->∀w,(zeroValue et).run E.P w=.ok z w:=fun hl w=>by
  replace hz:=hz hl
  rw [Option.bind_eq_some_iff] at hz
  obtain ⟨inf,i1,i2⟩:=hz
  simp [zeroValue,typeInfo,i1,i2]
 rcases b0U h7 hn k with ⟨f1,f2⟩|⟨j,e,y,f1,f2,f3,f4,f5⟩
 ·replace hzv:=hzv (a9R.2 f2)
  rw [a9R.2 f2]
  refine ⟨if c then .tuple #[z,.bool false] else z,?_,?_⟩
  ·simp [execOp,Instr.lookup,run_underlying (a7i hok ht hk),h2,Go.MapKept.run_getObj_map h4,hii,run_checkKey hd (kk.key k),run_findKey hd f1,hzv]
  cases c with
  | false=>exact b0l z
  | true =>
   show Abs.Rel _ _ _ _ _
   rw [if_pos rfl,if_pos rfl,Abs.Rel]
   exact ⟨[z,.bool false],rfl,RelL.cons (b0l z) (RelL.cons (by simp [Abs.Rel]) (by simp [Abs.RelL]))⟩
 rw [(a9S hn).2 (List.mem_of_getElem? f4)]
 obtain ⟨u,hu,hru⟩:=h8.get j (x:=f y) (by rw [List.getElem?_map,f4];rfl)
 rw [List.getElem?_map,f2,Option.map_some] at hu
 cases hu
 refine ⟨if c then .tuple #[e.val,.bool true] else e.val,?_,?_⟩
 ·simp [execOp,Instr.lookup,run_underlying (a7i hok ht hk),h2,Go.MapKept.run_getObj_map h4,hii,run_checkKey hd (kk.key k),run_findKey hd f1]
 cases c with
 | false=>exact hru
 | true =>
  show Abs.Rel _ _ _ _ _
  rw [if_pos rfl,if_pos rfl,Abs.Rel]
  exact ⟨[e.val,.bool true],rfl,RelL.cons hru (RelL.cons (by simp [Abs.Rel]) (by simp [Abs.RelL]))⟩
theorem c5r{kk:b9G κ}{f:α->AV}{l:List (κ × α)}{k:κ}{a:α}{t kt et:TypeId}{x i:Operand}{id:Nat}{c:Bool}
  (hj:lkp l k=some a) (ht:Nat.blt t E.n=true) (hk:(E.ti t).k=.map kt et) (hkt:Nat.blt kt E.n=true) (hkk:(E.ti kt).k=kk.tk) (hx:ρ x=.mp id) (ho:H[id]?=some (some (mapA kk f l)))
  (hi:ρ i=kk.av k) (hn:(l.map (·.1)).Nodup) (h:K (if c then .tup [f a,.bool true] else f a) H):a0B E ⟨d,.lookup t x i c,ty,pos,after,g⟩ ρ H K :=
 c7I (z:=.tuple #[]) ht hk hkt hkk (fun h=>by rw [hj] at h;cases h) hx ho hi hn (by rw [hj];exact h)
theorem b2s{us:Array MapEntry}{j:Nat}{k v:Value}:((us.modify j fun e=>{ e with key:=k,val:=v }).toList.map (·.val))=(us.toList.map (·.val)).set j v /\
  ((us.modify j fun e=>{ e with key:=k,val:=v }).toList.map (·.key))=(us.toList.map (·.key)).set j k/\((us.modify j fun e=>{ e with key:=k,val:=v }).toList.map (·.born))=us.toList.map (·.born):=by
 refine ⟨?_,?_,?_⟩
 all_goals
  apply List.ext_getElem?
  intro i
  simp only [List.getElem?_map,Array.getElem?_toList,Array.getElem?_modify,List.getElem?_set,List.length_map,Array.length_toList]
  by_cases hij:j=i
  ·subst hij
   by_cases hl:j<us.size<;>simp [hl]
  ·simp [hij]
theorem c2V{kk:b9G κ}{f:α->AV}{l:List (κ × α)}{k:κ}{a:α}{t kt et:TypeId}{x i y:Operand}{id:Nat}
  (ht:Nat.blt t E.n=true) (hk:(E.ti t).k=.map kt et) (hkt:Nat.blt kt E.n=true) (hkk:(E.ti kt).k=kk.tk) (hx:ρ x=.mp id) (ho:H[id]?=some (some (mapA kk f l)))
  (hi:ρ i=kk.av k) (hy:ρ y=f a) (hn:(l.map (·.1)).Nodup) (h:K (.tup []) (H.set id (some (mapA kk f (b9n l k a))))):a0B E ⟨d,.mapUpdate t x i y,ty,pos,after,g⟩ ρ H K:=by
 refine step_skip (fun m w ac hok hr hsim=>?_)
 have h1:=hr x
 have hii:=hr i
 have hyy:=hr y
 rw [hx] at h1
 rw [hi] at hii
 rw [hy] at hyy
 have hii:=(kk.rel _ _ _ _ _).1 hii
 obtain ⟨b,us,clock,h2,h3,h4,h5,h6,h7,h8⟩:=b0c hsim ho h1
 have hd:=kk.ty E kt hok hkt hkk
 have e1:∀l:List (κ × α),(l.map fun p=>(kk.av p.1,f p.2)).map (·.1)=(l.map (·.1)).map kk.av:=fun l=>by simp
 have e2:∀l:List (κ × α),(l.map fun p=>(kk.av p.1,f p.2)).map (·.2)=l.map fun p=>f p.2:=fun l=>by simp
 have e3:us.toList.map (·.key)=(l.map (·.1)).map kk.val:=by rw [h7];simp
 rcases b0U h7 hn k with ⟨f1,f2⟩|⟨j,e,y0,f1,f2,f3,f4,f5⟩
 ·obtain ⟨g1,g2⟩:=map_set (es':=(l++[(k,a)]).map fun p=>(kk.av p.1,f p.2)) (us':=us.push { key:=kk.val k,val:=ac.eval y,born:=clock }) (clock':=clock+1) hsim h3 h4
   (fun e he=>by
    rw [Array.mem_push] at he
    rcases he with he|rfl
    ·have:=h5 e he;omega
    ·show clock<clock+1;omega)
   (by
    simp only [Array.toList_push,List.map_append,List.map_cons,List.map_nil]
    rw [List.nodup_append]
    refine ⟨h6,by simp,fun p hp q hq e=>?_⟩
    simp only [List.mem_singleton] at hq
    subst hq
    obtain ⟨x,hx,hxe⟩:=List.mem_map.1 hp
    have:=h5 x (by simpa using hx)
    omega)
   (by
    have e4:(us.push { key:=kk.val k,val:=ac.eval y,born:=clock }).toList.map (·.key)=((l++[(k,a)]).map (·.1)).map kk.val:=by
     rw [Array.toList_push,List.map_append,e3];simp
    rw [e1,e4]
    exact a6g kk _)
   (by
    rw [e2,Array.toList_push,List.map_append,List.map_append]
    exact h8.append (RelL.cons hyy (by simp [Abs.RelL])))
  refine ⟨_,m,_,?_,g1,g2,?_⟩
  ·simp [execOp,Instr.mapUpdate,run_underlying (a7i hok ht hk),h2,Go.MapKept.run_getObj_map h4,hii,run_checkKey hd (kk.key k),run_findKey hd f1,Go.MapKept.run_setObj_map _ h4]
  unfold b9n at h
  rw [c6F f2] at h
  exact h
 have hj:us[j]?=some e:=by simpa using f2
 obtain ⟨m1,m2,m3⟩:=b2s (us:=us) (j:=j) (k:=kk.val k) (v:=ac.eval y)
 obtain ⟨g1,g2⟩:=map_set (es':=(l.set j (k,a)).map fun p=>(kk.av p.1,f p.2)) (us':=us.modify j fun e=>{ e with key:=kk.val k,val:=ac.eval y }) (clock':=clock) hsim h3 h4
  (fun e' he'=>by
   obtain ⟨i',hi',he2⟩:=Array.getElem_of_mem he'
   rw [Array.getElem_modify] at he2
   rw [Array.size_modify] at hi'
   have:=h5 us[i'] (Array.getElem_mem hi')
   split at he2<;>(rw [<- he2];exact this))
  (by rw [m3];exact h6)
  (by
   rw [m2,e1,List.map_set,List.map_set,e3]
   exact (a6g kk _).set j ((kk.rel _ _ _ _ _).2 rfl))
  (by
   rw [m1,e2,List.map_set]
   exact h8.set j hyy)
 refine ⟨_,m,_,?_,g1,g2,?_⟩
 ·simp [execOp,Instr.mapUpdate,run_underlying (a7i hok ht hk),h2,Go.MapKept.run_getObj_map h4,hii,run_checkKey hd (kk.key k),run_findKey hd f1,hj,f3,run_keyThatStays (kk.key k),Go.MapKept.run_setObj_map _ h4]
 unfold b9n at h
 rw [f5] at h
 exact h
end
end Go.Abs
namespace Go.Abs
section
variable{α:Type}(lt:α->α->Bool)
variable{lt}
end
structure Hd where
 ver:Int
 slot:Int
 lay:Int
 seq:Int
 tail:Int
 now:Int
def hdL(h:Hd):List AV:=[.int .i64 h.ver,.int .i64 h.slot,.int .i64 h.lay,.int .i64 h.seq,.int .i64 h.tail,.int .i64 h.now]
def hdA(h:Hd):AV:=.agg (hdL h)
@[simp] theorem a4C{n:Nat}{h:Hd}:a0g n (hdA h):=⟨trivial,trivial,trivial,trivial,trivial,trivial,trivial⟩
def hdB(h:Hd):Bool:=(decide (h.ver=1) || decide (h.ver=2))&&(decide (0<=h.slot)&&(decide (h.slot<16)&&(decide (1<=h.lay)&&(decide (h.lay<=4294967295)&&(decide (1<=h.seq)&&(decide (h.seq<=281474976710655)&&(decide (0<=h.tail)&&(decide (h.tail<=h.seq)&&(decide (0<=h.now)&&decide (h.now<=549755813888))))))))))
def a1e(l:La)(slot:Int):Int:=if a1f l=true/\0<=slot/\slot<l.regs then 74+slot*l.rs else -1
def c5M(l:La):Int:=if a1f l=true then (l.rs - 1)*59 else 0
theorem a1M{l:La}(h:a1f l=true):2<=l.rs/\l.rs<=2048/\4<=l.regs/\l.regs<=16:=by
 simp only [a1f,Bool.and_eq_true,Bool.or_eq_true,decide_eq_true_eq] at h
 obtain ⟨_,_,_,f4,f5,_,f7,f8⟩:=h
 exact ⟨f4,f5,f7,f8⟩
theorem a2Z{l:La}{slot:Int}(h:a1f l=true)(h1:0<=slot)(h2:slot<l.regs):IntKind.i64.wrap (74+IntKind.i64.wrap (slot*l.rs))=74+slot*l.rs/\0<=slot*l.rs/\slot*l.rs<=32768:=by
 obtain ⟨a,b,c,d⟩:=a1M h
 have h3:0<=slot*l.rs:=Int.mul_nonneg h1 (by omega)
 have h4:slot*l.rs<=16*2048:=Int.mul_le_mul (by omega) b (by omega) (by omega)
 have e1:IntKind.i64.wrap (slot*l.rs)=slot*l.rs:=a0p (by omega) (by omega)
 rw [e1]
 exact ⟨a0p (by omega) (by omega),h3,by omega⟩
attribute [local irreducible] a0B a1G AWp Nx awM
theorem b3K(X:Nat->Prop)(h:Hd):a0b (E0 X) 218 [hdA h] [] (fun r H'=>r=.bool (hdB h)/\H'=[]):=by
 refine a0b.cut0 ?_ trivial
 refine Z0 Proofs.Tryz.func218 rfl Proofs.Tryz.ntmps218 (by kernel_rfl) rfl ?_
 repeat' (first|refine Zs rfl ?_|refine Zc rfl ?_|refine Zh ?_|refine Qs ?_|((fail_if_success refine QV rfl ?_);refine Qy rfl rfl (fun _=>?_) (fun _=>?_)))
 all_goals (refine a0c ?_;refine ⟨_,rfl,?_⟩;refine congrArg AV.bool ?_;simp [hdB, *];done)
theorem b1o(X:Nat->Prop)(h:Hd):a0b (E0 X) 88 [hdA h] [] (fun r H'=>r=.bool (hdB h)/\H'=[]):=by
 refine a0b.cut0 ?_ trivial
 refine Z0 Proofs.Tryz.func88 rfl Proofs.Tryz.ntmps88 (by kernel_rfl) rfl ?_
 repeat' (first|refine Zs rfl ?_|refine Zc rfl ?_|refine Zh ?_|refine Qs ?_|((fail_if_success refine QV rfl ?_);refine Qy rfl rfl (fun _=>?_) (fun _=>?_)))
 all_goals (refine a0c ?_;refine ⟨_,rfl,?_⟩;refine congrArg AV.bool ?_;simp [hdB, *];done)
theorem b2i(X:Nat->Prop)(l:La)(slot:Int):a0b (E0 X) 100 [laA l,.int .i64 slot] [] (fun r H'=>r=.int .i64 (a1e l slot)/\H'=[]):=by
 refine a0b.cut0 ?_ trivial
 refine Z0 Proofs.Tryz.func100 rfl Proofs.Tryz.ntmps100 (by kernel_rfl) rfl ?_
 repeat' (first|refine Zs rfl ?_|refine Zc rfl ?_|refine Qa rfl ?_)
 refine Cn rfl (a0f (E:=E0 X) (fun X=>a6R X l) (by simp [a0e,a0g]) _) rfl rfl ?_
 cases hf:a1f l with
 | false =>
  have e:a1e l slot=-1:=if_neg fun h=>by rw [hf] at h;exact absurd h.1 (by decide)
  rw [e]
  repeat' (first|refine Zs rfl ?_|refine Zc rfl ?_|refine Zh ?_|refine Qs ?_)
  exact a0c ⟨_,rfl,rfl⟩
 | true =>
  by_cases h1:slot<0
  ·have e:a1e l slot=-1:=if_neg fun h=>by omega
   rw [e]
   repeat' (refine Zs rfl ?_)
   rw [decide_eq_true h1]
   repeat' (first|refine Zs rfl ?_|refine Zc rfl ?_|refine Zh ?_|refine Qs ?_)
   exact a0c ⟨_,rfl,rfl⟩
  repeat' (refine Zs rfl ?_)
  rw [decide_eq_false h1]
  repeat' (first|refine Zs rfl ?_|refine Zh ?_|refine Qs ?_)
  refine a0d rfl (fun h2=>?_) (fun h2=>?_)
  ·have e:a1e l slot=-1:=if_neg fun h=>by omega
   rw [e]
   repeat' (first|refine Zs rfl ?_|refine Zc rfl ?_|refine Zh ?_|refine Qs ?_)
   exact a0c ⟨_,rfl,rfl⟩
  have e:a1e l slot=74+slot*l.rs:=if_pos ⟨hf,by omega,by omega⟩
  rw [e,<- (a2Z hf (by omega) (by omega)).1]
  repeat' (first|refine Zs rfl ?_|refine Zc rfl ?_|refine Zh ?_|refine Qs ?_)
  exact a0c ⟨_,rfl,rfl⟩
theorem b4L(X:Nat->Prop)(l:La):a0b (E0 X) 72 [laA l] [] (fun r H'=>r=.int .i64 (c5M l)/\H'=[]):=by
 refine a0b.cut0 ?_ trivial
 refine Z0 Proofs.Tryz.func72 rfl Proofs.Tryz.ntmps72 (by kernel_rfl) rfl ?_
 repeat' (first|refine Zs rfl ?_|refine Zc rfl ?_|refine Qa rfl ?_)
 refine Cn rfl (a0f (E:=E0 X) (fun X=>a6R X l) (by simp [a0e,a0g]) _) rfl rfl ?_
 cases hf:a1f l with
 | false =>
  have e:c5M l=0:=if_neg (by rw [hf];decide)
  rw [e]
  repeat' (first|refine Zs rfl ?_|refine Zc rfl ?_|refine Zh ?_|refine Qs ?_)
  exact a0c ⟨_,rfl,rfl⟩
 | true =>
  have hr:=a1M hf
  have e:c5M l=IntKind.i64.wrap (IntKind.i64.wrap (l.rs - 1)*59):=by
   have e1:IntKind.i64.wrap (l.rs - 1)=l.rs - 1:=a0p (by omega) (by omega)
   rw [e1,a0p (by omega) (by omega)]
   exact if_pos hf
  rw [e]
  repeat' (first|refine Zs rfl ?_|refine Zc rfl ?_|refine Zh ?_|refine Qs ?_)
  exact a0c ⟨_,rfl,rfl⟩
def b1Q(h:Hd):List UInt8:=a1b (a1b (a1b (a1b [UInt8.ofNat (h.ver.toNat%256),UInt8.ofNat (h.slot.toNat%256)] h.lay.toNat 4) h.seq.toNat 6) h.tail.toNat 6) h.now.toNat 5
theorem a6b(h:Hd):(b1Q h).length=23:=by simp [b1Q,a0E]
def a5L(h:Hd)(sector:Nat):List UInt8:=a3Q 1 0 sector (b1Q h)
theorem a4U(h:Hd)(k:Nat):(a5L h k).length=64:=a2W (by rw [a6b];decide)
structure c9k(h:Hd):Prop where
 ver:1<=h.ver/\h.ver<=2
 slot:0<=h.slot/\h.slot<=15
 lay:1<=h.lay/\h.lay<=4294967295
 seq:1<=h.seq/\h.seq<=281474976710655
 tail:0<=h.tail/\h.tail<=h.seq
 now:0<=h.now/\h.now<=549755813888
theorem c3I{h:Hd}(hb:hdB h=true):c9k h:=by
 simp only [hdB,Bool.and_eq_true,Bool.or_eq_true,decide_eq_true_eq] at hb
 obtain ⟨a,b,c,d,e,f,g,i,j,k,l⟩:=hb
 exact ⟨by omega,by omega,by omega,by omega,by omega,by omega⟩
theorem c6u(X:Nat->Prop)(h:Hd)(sector:Nat)(hv:hdB h=true)(hs:sector<1048576) :
  a0b (E0 X) 190 [hdA h,.int .i64 (sector:Int)] [] (fun r H'=>r=.tup [.sl 1 ((a5L h sector).map u8A),.int .i64 0]/\H'=[]):=by
 refine a0b.cut0 ?_ ⟨a0h fun _=>a0n,trivial,trivial⟩
 have hva:=fun X=>b3K X h
 rw [hv] at hva
 obtain ⟨⟨a1,a2⟩,⟨b1,b2⟩,⟨c1,c2⟩,⟨d1,d2⟩,⟨e1,e2⟩,⟨f1,f2⟩⟩:=c3I hv
 have hpay:a5L h sector=a3Q 1 0 sector (b1Q h):=rfl
 have hl:=a6b h
 have hp:b1Q h=a1b (a1b (a1b (a1b [UInt8.ofNat (h.ver.toNat%256),UInt8.ofNat (h.slot.toNat%256)] h.lay.toNat 4) h.seq.toNat 6) h.tail.toNat 6) h.now.toNat 5:=rfl
 rw [hpay]
 generalize b1Q h=pay at *
 obtain ⟨ver,slot,lay,seq,tail,now⟩:=h
 simp only at a1 a2 b1 b2 c1 c2 d1 d2 e1 e2 f1 f2 hp
 obtain ⟨ver,rfl⟩:=Int.eq_ofNat_of_zero_le (show 0<=ver by omega)
 obtain ⟨slot,rfl⟩:=Int.eq_ofNat_of_zero_le b1
 obtain ⟨lay,rfl⟩:=Int.eq_ofNat_of_zero_le (show 0<=lay by omega)
 obtain ⟨seq,rfl⟩:=Int.eq_ofNat_of_zero_le (show 0<=seq by omega)
 obtain ⟨tail,rfl⟩:=Int.eq_ofNat_of_zero_le e1
 obtain ⟨now,rfl⟩:=Int.eq_ofNat_of_zero_le f1
 simp only [Int.toNat_natCast] at hp
 have hfe:=fun X=>b0R X 1 0 sector pay ⟨by decide,by decide,hs⟩ (by decide) (by omega)
 show a0b (E0 X) 190 [.agg [.int .i64 (ver:Int),.int .i64 (slot:Int),.int .i64 (lay:Int),.int .i64 (seq:Int),.int .i64 (tail:Int),.int .i64 (now:Int)],.int .i64 (sector:Int)] [] _
 refine Z0 Proofs.Tryz.func190 rfl Proofs.Tryz.ntmps190 (by kernel_rfl) rfl ?_
 repeat' (first|refine Zs rfl ?_|refine Zc rfl ?_|refine Qa rfl ?_)
 refine Cn rfl (a0f (E:=E0 X) (fun X=>hva X) (by simp [a0e,a0g]) _) rfl rfl ?_
 repeat' (first|refine Zs rfl ?_|refine Zc rfl ?_|refine Qa rfl ?_)
 rw [a1s,a1s,wrap64 (by omega)]
 have l2:[UInt8.ofNat (ver%256),UInt8.ofNat (slot%256)].length=2:=rfl
 refine Cn rfl (a4n X _ _ [UInt8.ofNat (ver%256),UInt8.ofNat (slot%256)] lay 4 (by decide) (by decide) (by simp) rfl) rfl rfl ?_
 have l6:(a1b [UInt8.ofNat (ver%256),UInt8.ofNat (slot%256)] lay 4).length=6:=by rw [a0E];rfl
 generalize a1b [UInt8.ofNat (ver%256),UInt8.ofNat (slot%256)] lay 4=b6 at *
 repeat' (first|refine Zs rfl ?_|refine Zc rfl ?_|refine Qa rfl ?_)
 rw [wrap64 (by omega)]
 refine Cn rfl (a4n X _ _ b6 seq 6 (by decide) (by decide) (by omega) (a0z rfl rfl rfl (by omega) (by rw [List.drop_zero,List.take_of_length_le (by omega)]))) rfl rfl ?_
 have l12:(a1b b6 seq 6).length=12:=by rw [a0E,l6]
 generalize a1b b6 seq 6=b12 at *
 repeat' (first|refine Zs rfl ?_|refine Zc rfl ?_|refine Qa rfl ?_)
 rw [wrap64 (by omega)]
 refine Cn rfl (a4n X _ _ b12 tail 6 (by decide) (by decide) (by omega) (a0z rfl rfl rfl (by omega) (by rw [List.drop_zero,List.take_of_length_le (by omega)]))) rfl rfl ?_
 have l18:(a1b b12 tail 6).length=18:=by rw [a0E,l12]
 generalize a1b b12 tail 6=b18 at *
 repeat' (first|refine Zs rfl ?_|refine Zc rfl ?_|refine Qa rfl ?_)
 rw [wrap64 (by omega)]
 refine Cn rfl (a4n X _ _ b18 now 5 (by decide) (by decide) (by omega) (a0z rfl rfl rfl (by omega) (by rw [List.drop_zero,List.take_of_length_le (by omega)]))) rfl rfl ?_
 rw [<- hp]
 repeat' (first|((refine Qa rfl ?_);(refine Q1 ?_);(refine QX rfl rfl ?_))|refine Qh ?_)
 refine a2s ?_
 refine a0t (Imp.trans (a0M (id:=4) (k:=1) (es:=pay.map u8A) (e:=5) rfl rfl rfl) (a0i 0 (Nat.zero_le _) a0T rfl (Nat.zero_le _) (sl':=[(1,.int .i64 (sector:Int)),(6,.sl 1 (pay.map u8A))]) ?_)) ?_
 ·refine a0a ⟨rfl,trivial⟩ (a0a ⟨?_,a0h fun _=>a0n⟩ a0k)
  show frz 4 _ _ (.own 4 0 (b18.length+5))=_
  exact a3h (by simp [hl,l18])
 repeat' (first|refine Zs rfl ?_|refine Zc rfl ?_|refine Qa rfl ?_)
 refine Cn rfl (a0f (E:=E0 X) (fun X=>hfe X) (by simp [a0e,a0g]) _) rfl rfl ?_
 repeat' (first|refine Zs rfl ?_|refine Zh ?_|refine Qs ?_)
 exact a0c ⟨_,rfl,rfl⟩
theorem b6P(X:Nat->Prop)(h:Hd)(sector:Int)(hv:hdB h=false) :
  a0b (E0 X) 190 [hdA h,.int .i64 sector] [] (fun r H'=>r=.tup [.nils,.int .i64 4]/\H'=[]):=by
 refine a0b.cut0 ?_ ⟨trivial,trivial,trivial⟩
 have hva:=fun X=>b3K X h
 rw [hv] at hva
 refine Z0 Proofs.Tryz.func190 rfl Proofs.Tryz.ntmps190 (by kernel_rfl) rfl ?_
 repeat' (first|refine Zs rfl ?_|refine Zc rfl ?_|refine Qa rfl ?_)
 refine Cn rfl (a0f (E:=E0 X) (fun X=>hva X) (by simp [a0e,a0g]) _) rfl rfl ?_
 repeat' (first|refine Zs rfl ?_|refine Zc rfl ?_|refine Zh ?_|refine Qs ?_)
 exact a0c ⟨_,rfl,rfl⟩
def a4q(h:Hd)(sector:Nat):Option (List UInt8):=if hdB h=true then some (a5L h sector) else none
theorem c6t(X:Nat->Prop)(h:Hd)(sector:Nat)(hs:sector<1048576) :
  a0b (E0 X) 190 [hdA h,.int .i64 (sector:Int)] [] (fun r H'=>r=(match a4q h sector with|some e=>.tup [.sl 1 (e.map u8A),.int .i64 0]|none=>.tup [.nils,.int .i64 4])/\H'=[]):=by
 unfold a4q
 cases hv:hdB h with
 | false=>exact b6P X h sector hv
 | true=>exact c6u X h sector hv hs
theorem b8h(X:Nat->Prop)(h:Hd)(sector:Nat)(hv:hdB h=true)(hs:sector<1048576) :
  a0b (E0 X) 89 [hdA h,.int .i64 (sector:Int)] [] (fun r H'=>r=.sl 1 ((a5L h sector).map u8A)/\H'=[]):=by
 obtain ⟨⟨a1,a2⟩,⟨b1,b2⟩,⟨c1,c2⟩,⟨d1,d2⟩,⟨e1,e2⟩,⟨f1,f2⟩⟩:=c3I hv
 have hpay:a5L h sector=a3Q 1 0 sector (b1Q h):=rfl
 have hl:=a6b h
 have hp:b1Q h=a1b (a1b (a1b (a1b [UInt8.ofNat (h.ver.toNat%256),UInt8.ofNat (h.slot.toNat%256)] h.lay.toNat 4) h.seq.toNat 6) h.tail.toNat 6) h.now.toNat 5:=rfl
 rw [hpay]
 generalize b1Q h=pay at *
 obtain ⟨ver,slot,lay,seq,tail,now⟩:=h
 simp only at a1 a2 b1 b2 c1 c2 d1 d2 e1 e2 f1 f2 hp
 obtain ⟨ver,rfl⟩:=Int.eq_ofNat_of_zero_le (show 0<=ver by omega)
 obtain ⟨slot,rfl⟩:=Int.eq_ofNat_of_zero_le b1
 obtain ⟨lay,rfl⟩:=Int.eq_ofNat_of_zero_le (show 0<=lay by omega)
 obtain ⟨seq,rfl⟩:=Int.eq_ofNat_of_zero_le (show 0<=seq by omega)
 obtain ⟨tail,rfl⟩:=Int.eq_ofNat_of_zero_le e1
 obtain ⟨now,rfl⟩:=Int.eq_ofNat_of_zero_le f1
 simp only [Int.toNat_natCast] at hp
 refine a0b.frz0 (e:=5) 1 ?_ rfl rfl (a0h fun _=>a0n)
 show a0b (E0 X) 89 [.agg [.int .i64 (ver:Int),.int .i64 (slot:Int),.int .i64 (lay:Int),.int .i64 (seq:Int),.int .i64 (tail:Int),.int .i64 (now:Int)],.int .i64 (sector:Int)] [] _
 refine Z0 Proofs.Tryz.func89 rfl Proofs.Tryz.ntmps89 (by kernel_rfl) rfl ?_
 repeat' (first|refine Zs rfl ?_|refine Zc rfl ?_|refine Qa rfl ?_)
 rw [a1s,a1s,wrap64 (by omega)]
 have l2:[UInt8.ofNat (ver%256),UInt8.ofNat (slot%256)].length=2:=rfl
 refine Cn rfl (a1C X _ _ [UInt8.ofNat (ver%256),UInt8.ofNat (slot%256)] lay 4 (by decide) (by decide) (by simp) rfl) rfl rfl ?_
 have l6:(a1b [UInt8.ofNat (ver%256),UInt8.ofNat (slot%256)] lay 4).length=6:=by rw [a0E];rfl
 generalize a1b [UInt8.ofNat (ver%256),UInt8.ofNat (slot%256)] lay 4=b6 at *
 repeat' (first|refine Zs rfl ?_|refine Zc rfl ?_|refine Qa rfl ?_)
 rw [wrap64 (by omega)]
 refine Cn rfl (a1C X _ _ b6 seq 6 (by decide) (by decide) (by omega) (a0z rfl rfl rfl (by omega) (by rw [List.drop_zero,List.take_of_length_le (by omega)]))) rfl rfl ?_
 have l12:(a1b b6 seq 6).length=12:=by rw [a0E,l6]
 generalize a1b b6 seq 6=b12 at *
 repeat' (first|refine Zs rfl ?_|refine Zc rfl ?_|refine Qa rfl ?_)
 rw [wrap64 (by omega)]
 refine Cn rfl (a1C X _ _ b12 tail 6 (by decide) (by decide) (by omega) (a0z rfl rfl rfl (by omega) (by rw [List.drop_zero,List.take_of_length_le (by omega)]))) rfl rfl ?_
 have l18:(a1b b12 tail 6).length=18:=by rw [a0E,l12]
 generalize a1b b12 tail 6=b18 at *
 repeat' (first|refine Zs rfl ?_|refine Zc rfl ?_|refine Qa rfl ?_)
 rw [wrap64 (by omega)]
 refine Cn rfl (a1C X _ _ b18 now 5 (by decide) (by decide) (by omega) (a0z rfl rfl rfl (by omega) (by rw [List.drop_zero,List.take_of_length_le (by omega)]))) rfl rfl ?_
 rw [<- hp]
 repeat' (first|refine Zs rfl ?_|refine Zc rfl ?_|refine Qa rfl ?_)
 refine Cn rfl (b0o X _ _ 1 0 sector pay (by decide) hs (by omega) (a0z rfl rfl rfl (by omega) (by rw [List.drop_zero,List.take_of_length_le (by omega)]))) rfl rfl ?_
 repeat' (first|refine Zs rfl ?_|refine Zh ?_|refine Qs ?_)
 refine a0c ⟨_,rfl,5,_,rfl,?_,rfl⟩
 rw [List.length_map,a2W (by omega)]
theorem c6S{n:Nat}(h:n<=1099511627775):a0I [a0j n 32,a0j n 24,a0j n 16,a0j n 8,a0j n 0]=n:=by
 simp only [a0I,List.foldl_cons,List.foldl_nil,a3H]
 have e1:(2:Nat) ^ 24=16777216:=by decide
 have e2:(2:Nat) ^ 16=65536:=by decide
 have e3:(2:Nat) ^ 8=256:=by decide
 have e4:(2:Nat) ^ 32=4294967296:=by decide
 rw [e1,e2,e3,e4]
 omega
def b7K(bs:List UInt8):Hd:=⟨(a0I ((bs.drop 0).take 1):Nat),(a0I ((bs.drop 1).take 1):Nat),(a0I ((bs.drop 2).take 4):Nat),(a0I ((bs.drop 6).take 6):Nat),(a0I ((bs.drop 12).take 6):Nat),(a0I ((bs.drop 18).take 5):Nat)⟩
def b1p(bs:List UInt8):Hd:=⟨((bs[0]?.getD 0).toNat:Nat),((bs[1]?.getD 0).toNat:Nat),(a0I ((bs.drop 2).take 4):Nat),(a0I ((bs.drop 6).take 6):Nat),(a0I ((bs.drop 12).take 6):Nat),(a0I ((bs.drop 18).take 5):Nat)⟩
def a3E:Hd:=⟨0,0,0,0,0,0⟩
def c6V(o:Option Hd):AV:=.tup [hdA (o.getD a3E),.bool o.isSome]
def a7V(b:List UInt8)(sector:Nat):Option Hd:=match a2M 1 0 sector b with
 | none=>none
 | some pay=>if a4q (b7K pay) sector=some b then some (b7K pay) else none
def c4u(h:Hd)(z:List UInt8):List UInt8:=UInt8.ofNat (h.ver.toNat%256)::UInt8.ofNat (h.slot.toNat%256)::a0j h.lay.toNat 24::a0j h.lay.toNat 16::a0j h.lay.toNat 8::a0j h.lay.toNat 0 ::
 a0j h.seq.toNat 40::a0j h.seq.toNat 32::a0j h.seq.toNat 24::a0j h.seq.toNat 16::a0j h.seq.toNat 8::a0j h.seq.toNat 0 ::
 a0j h.tail.toNat 40::a0j h.tail.toNat 32::a0j h.tail.toNat 24::a0j h.tail.toNat 16::a0j h.tail.toNat 8::a0j h.tail.toNat 0 ::
 a0j h.now.toNat 32::a0j h.now.toNat 24::a0j h.now.toNat 16::a0j h.now.toNat 8::a0j h.now.toNat 0::z
theorem c0X(h:Hd)(z:List UInt8):b1Q h++z=c4u h z:=rfl
theorem c6X(h:Hd)(z:List UInt8):b7K (c4u h z)=⟨(a0I [UInt8.ofNat (h.ver.toNat%256)]:Nat),(a0I [UInt8.ofNat (h.slot.toNat%256)]:Nat),(a0I [a0j h.lay.toNat 24,a0j h.lay.toNat 16,a0j h.lay.toNat 8,a0j h.lay.toNat 0]:Nat),
  (a0I [a0j h.seq.toNat 40,a0j h.seq.toNat 32,a0j h.seq.toNat 24,a0j h.seq.toNat 16,a0j h.seq.toNat 8,a0j h.seq.toNat 0]:Nat),
  (a0I [a0j h.tail.toNat 40,a0j h.tail.toNat 32,a0j h.tail.toNat 24,a0j h.tail.toNat 16,a0j h.tail.toNat 8,a0j h.tail.toNat 0]:Nat),
  (a0I [a0j h.now.toNat 32,a0j h.now.toNat 24,a0j h.now.toNat 16,a0j h.now.toNat 8,a0j h.now.toNat 0]:Nat)⟩:=rfl
theorem c4V(h:Hd)(z:List UInt8):b1p (c4u h z)=⟨((UInt8.ofNat (h.ver.toNat%256)).toNat:Nat),((UInt8.ofNat (h.slot.toNat%256)).toNat:Nat),(a0I [a0j h.lay.toNat 24,a0j h.lay.toNat 16,a0j h.lay.toNat 8,a0j h.lay.toNat 0]:Nat),
  (a0I [a0j h.seq.toNat 40,a0j h.seq.toNat 32,a0j h.seq.toNat 24,a0j h.seq.toNat 16,a0j h.seq.toNat 8,a0j h.seq.toNat 0]:Nat),
  (a0I [a0j h.tail.toNat 40,a0j h.tail.toNat 32,a0j h.tail.toNat 24,a0j h.tail.toNat 16,a0j h.tail.toNat 8,a0j h.tail.toNat 0]:Nat),
  (a0I [a0j h.now.toNat 32,a0j h.now.toNat 24,a0j h.now.toNat 16,a0j h.now.toNat 8,a0j h.now.toNat 0]:Nat)⟩:=rfl
theorem b4e{h:Hd}(hv:hdB h=true)(z:List UInt8):b7K (b1Q h++z)=h/\b1p (b1Q h++z)=h:=by
 obtain ⟨⟨a1,a2⟩,⟨b1,b2⟩,⟨c1,c2⟩,⟨d1,d2⟩,⟨e1,e2⟩,⟨f1,f2⟩⟩:=c3I hv
 rw [c0X,c6X,c4V,b1P (by omega),b1P (by omega),b9C (by omega),c6T (by omega),c6T (by omega),c6S (by omega),a4j (by omega),a4j (by omega)]
 obtain ⟨ver,slot,lay,seq,tail,now⟩:=h
 simp only [Hd.mk.injEq]
 simp only at a1 a2 b1 b2 c1 c2 d1 d2 e1 e2 f1 f2
 refine ⟨⟨?_,?_,?_,?_,?_,?_⟩,?_,?_,?_,?_,?_,?_⟩<;>omega
theorem b6p{h:Hd}(hv:hdB h=true)(k:Nat):a7V (a5L h k) k=some h:=by
 have hl:=a6b h
 have h1:a2M 1 0 k (a5L h k)=some (b1Q h++List.replicate (59 - (b1Q h).length) 0):=a3I (by omega)
 unfold a7V
 rw [h1]
 simp only
 rw [(b4e hv _).1]
 have h2:a4q h k=some (a5L h k):=by
  unfold a4q
  rw [if_pos hv]
 rw [if_pos h2]
theorem b4P{b:List UInt8}{k:Nat}{h:Hd}(e:a7V b k=some h):hdB h=true/\a5L h k=b:=by
 unfold a7V at e
 split at e
 ·cases e
 rename_i pay _
 split at e
 ·rename_i h2
  injection e with e
  rw [e] at h2
  unfold a4q at h2
  split at h2
  ·rename_i h3
   exact ⟨h3,by injection h2⟩
  ·cases h2
 ·cases e
def zOh:AO:=.cells (hdL a3E) 61
theorem c3J(bs:List UInt8)(lo:Nat):HOk 3 [some zOh,some (.arr (bs.map u8A) 5),some (b5h bs 1 lo)]:=fun j o ho=>by
 match j,ho with
 | 0,ho=>cases ho;exact ⟨trivial,trivial,trivial,trivial,trivial,trivial,trivial⟩
 | 1,ho=>cases ho;exact a0h fun _=>a0n
 | 2,ho=>cases ho;exact ⟨by simp [a0g],trivial,trivial⟩
theorem c6n(X:Nat->Prop)(bs:List UInt8)(lo w:Nat)(hw:1<=w)(hw6:w<=6)(h:lo+w<=bs.length)(hb:bs.length<=1000) :
  a0b (E0 X) 189 [.int .i64 (w:Int),.fp [.ptr 1 0]] (a2z bs lo) (fun r H'=>r=.int .i64 (a0I ((bs.drop lo).take w):Int)/\H'=a2z bs (lo+w)):=by
 have s1:=a0Z (bs:=bs) (lo:=lo) (w:=w) hw6
 have c1:=b7x X bs lo w hw (by omega) h hb
 generalize a0I ((bs.drop lo).take w)=n at *
 refine Z0 Proofs.Tryz.func189 rfl Proofs.Tryz.ntmps189 (by kernel_rfl) rfl ?_
 repeat' (first|refine Zs rfl ?_|refine Zc rfl ?_|refine Qa rfl ?_)
 refine Cn rfl (c1) rfl rfl ?_
 repeat' (first|refine Zs rfl ?_|refine Zh ?_|refine Qs ?_)
 refine a0c ⟨_,rfl,?_,?_⟩
 ·exact congrArg (AV.int .i64) (a3w s1)
 ·rfl
theorem a6v(X:Nat->Prop)(bs:List UInt8)(lo w:Nat)(hw:1<=w)(hw6:w<=6)(h:lo+w<=bs.length)(hb:bs.length<=1000)(L R:Hp)(s:Nat)(hs:L.length=s) :
  a0b (E0 X) 189 [.int .i64 (w:Int),.fp [.ptr (1+s) 0]] (L++a7p bs s lo++R) (fun r H'=>r=.int .i64 (a0I ((bs.drop lo).take w):Int)/\H'=L++a7p bs s (lo+w)++R):=by
 subst hs
 have hm:∀lo,a1U (sh L.length R.length 2) (a2z bs lo)=a7p bs L.length lo:=fun lo=>a3k _ 0 L.length bs lo (by simp [sh])
 refine a0b.conv (a0b.frameLR (E:=E0 X) (fun X=>c6n X bs lo w hw hw6 h hb) L R (a5d bs lo) ⟨trivial,⟨by simp [a0g,a2z],trivial⟩,trivial⟩ (a3Z bs lo)) ?_ (by rw [show (a2z bs lo).length=2 from rfl,hm]) ?_
 ·simp [rnL,rnA,sh,a2z]
 rintro q H' ⟨r1,h',⟨rfl,rfl⟩,-,rfl,rfl⟩
 refine ⟨rfl,?_⟩
 show L++a1U (sh L.length R.length 2) (a2z bs (lo+w))++R++[]=_
 rw [hm,List.append_nil]
theorem c6o(X:Nat->Prop)(b:List UInt8)(sector:Nat)(hs:sector<1048576)(hb:b.length<=1000) :
  a0b (E0 X) 155 [.sl 1 (b.map u8A),.int .i64 (sector:Int)] [] (fun r H'=>r=c6V (a7V b sector)/\H'=[]):=by
 refine a0b.cut0 ?_ ⟨a4C,trivial,trivial⟩
 have hdec:=fun X=>b3B X 1 0 sector b ⟨by decide,by decide,hs⟩ (by decide) (by omega)
 refine Z0 Proofs.Tryz.func155 rfl Proofs.Tryz.ntmps155 (by kernel_rfl) rfl ?_
 repeat' (first|refine Zs rfl ?_|refine Zc rfl ?_|refine Qa rfl ?_)
 refine Ck (fun _=>rfl) rfl (a0f (E:=E0 X) hdec (by simp [a0e,a0g]) _) ?_
 cases hd:a2M 1 0 sector b with
 | none =>
  have e:a7V b sector=none:=by simp only [a7V,hd]
  rw [e]
  show Nx _ (.tup [.nils,.bool false]) _
  refine nx rfl rfl ?_
  repeat' (first|refine Zs rfl ?_|refine Zc rfl ?_|refine Zh ?_|refine Qs ?_)
  exact a0c ⟨_,rfl,rfl⟩
 | some bs =>
  obtain ⟨hbl,-⟩:=a2D hd
  have e:a7V b sector=if a4q (b7K bs) sector=some b then some (b7K bs) else none:=by simp only [a7V,hd]
  rw [e]
  show Nx _ (.tup [.sl 1 (bs.map u8A),.bool true]) _
  refine nx rfl rfl ?_
  repeat' (first|refine Zs rfl ?_|refine Zc rfl ?_|refine Qa rfl ?_)
  refine Cn rfl (a9Z X bs (by omega) _ _ rfl) rfl rfl ?_
  repeat' (first|((refine Qa rfl ?_);(refine QJ rfl rfl ?_);(refine QX rfl rfl ?_))|(refine Qb rfl ?_;try (refine QS rfl rfl rfl rfl rfl rfl rfl ?_;(refine QX rfl rfl ?_)))|refine Qh ?_)
  refine a2s ?_
  refine a0t (a0X (id:=3) (cs:=[.ptr 2 0]) rfl) ?_
  refine Kc [0,1,4,8] 3 (c3J bs 0) rfl rfl (by simp [a0g,a0e]) ?_
  have q1:=fun R=>a6v X bs 0 1 (by decide) (by decide) (by omega) (by omega) [some zOh] R 1 rfl
  have q2:=fun R=>a6v X bs 1 1 (by decide) (by decide) (by omega) (by omega) [some zOh] R 1 rfl
  have q3:=fun R=>a6v X bs 2 4 (by decide) (by decide) (by omega) (by omega) [some zOh] R 1 rfl
  have q4:=fun R=>a6v X bs 6 6 (by decide) (by decide) (by omega) (by omega) [some zOh] R 1 rfl
  have q5:=fun R=>a6v X bs 12 6 (by decide) (by decide) (by omega) (by omega) [some zOh] R 1 rfl
  have q6:=fun R=>a6v X bs 18 5 (by decide) (by decide) (by omega) (by omega) [some zOh] R 1 rfl
  have hp:b7K bs=⟨(a0I ((bs.drop 0).take 1):Nat),(a0I ((bs.drop 1).take 1):Nat),(a0I ((bs.drop 2).take 4):Nat),(a0I ((bs.drop 6).take 6):Nat),(a0I ((bs.drop 12).take 6):Nat),(a0I ((bs.drop 18).take 5):Nat)⟩:=rfl
  rw [hp]
  generalize a0I ((bs.drop 0).take 1)=n1 at *
  generalize a0I ((bs.drop 1).take 1)=n2 at *
  generalize a0I ((bs.drop 2).take 4)=n3 at *
  generalize a0I ((bs.drop 6).take 6)=n4 at *
  generalize a0I ((bs.drop 12).take 6)=n5 at *
  generalize a0I ((bs.drop 18).take 5)=n6 at *
  have hen:=fun X=>c6t X ⟨n1,n2,n3,n4,n5,n6⟩ sector hs
  repeat' (first|refine Zs rfl ?_|refine Zc rfl ?_|refine Qa rfl ?_)
  refine Cn rfl (q1 _) rfl rfl ?_
  repeat' (first|refine Zs rfl ?_|refine Qa rfl ?_)
  refine Cn rfl (q2 _) rfl rfl ?_
  repeat' (first|refine Zs rfl ?_|refine Qa rfl ?_)
  refine Cn rfl (q3 _) rfl rfl ?_
  repeat' (first|refine Zs rfl ?_|refine Qa rfl ?_)
  refine Cn rfl (q4 _) rfl rfl ?_
  repeat' (first|refine Zs rfl ?_|refine Qa rfl ?_)
  refine Cn rfl (q5 _) rfl rfl ?_
  repeat' (first|refine Zs rfl ?_|refine Qa rfl ?_)
  refine Cn rfl (q6 _) rfl rfl ?_
  repeat' (first|refine Zs rfl ?_|refine Zc rfl ?_|refine Qa rfl ?_)
  refine Ck (fun _=>rfl) rfl (a0f (E:=E0 X) hen (by simp [a0e,a0g]) _) ?_
  cases he:a4q ⟨n1,n2,n3,n4,n5,n6⟩ sector with
  | none =>
   rw [if_neg (by simp)]
   show Nx _ (.tup [.nils,.int .i64 4]) _
   refine nx rfl rfl ?_
   repeat' (first|refine Zs rfl ?_|refine Zc rfl ?_|refine Zh ?_|refine Qs ?_)
   exact a0c ⟨_,rfl,rfl⟩
  | some eb =>
   show Nx _ (.tup [.sl 1 (eb.map u8A),.int .i64 0]) _
   refine nx rfl rfl ?_
   repeat' (first|refine Zs rfl ?_|refine Zc rfl ?_|refine Qa rfl ?_)
   refine Cn rfl (a0f (E:=E0 X) (fun X=>b5X X eb b) (by simp [a0e,a0g]) _) rfl rfl ?_
   repeat' (first|refine Zs rfl ?_|refine Zh ?_|refine Qs ?_)
   refine a0H rfl (fun h9=>?_) (fun h9=>?_)
   ·have h8:¬ eb=b:=by simpa using h9
    rw [if_neg (by simpa using h8)]
    repeat' (first|refine Zs rfl ?_|refine Zc rfl ?_|refine Zh ?_|refine Qs ?_)
    exact a0c ⟨_,rfl,rfl⟩
   have h8:eb=b:=by simpa using h9
   rw [if_pos (by rw [h8])]
   repeat' (first|refine Zs rfl ?_|refine Zc rfl ?_|refine Zh ?_|refine Qs ?_)
   exact a0c ⟨_,rfl,rfl⟩
theorem a0b.cutDv{E:Env}{f:FuncId}{args:List AV}{v v':Dv}{r0:AV}(h:a0b E f args (a1c v) (fun r H'=>r=r0/\H'.take 3=a1c v'))(hr:a0g 0 r0):a0b E f args (a1c v) (fun r H'=>r=r0/\H'=a1c v') :=
 h.imp fun r H' ⟨h1,h2⟩=>by
  subst h1
  refine ⟨_,_,⟨rfl,rfl⟩,a0i 3 (Nat.le_refl _) (a1N v') h2 ?_ ?_⟩
  ·have:(H'.take 3).length=3:=by rw [h2];rfl
   simp at this ⊢;omega
  ·exact a0a ⟨rfl,(a0x (Nat.zero_le _) (show a0e 0 [r] from ⟨hr,trivial⟩)).1⟩ a0k
def b4U(l:La)(slot:Int)(o:Option Hd):Option Hd:=match o with
 | none=>none
 | some h=>if h.ver=l.ver/\h.lay=l.id/\h.slot=slot then some h else none
def a3s(v:Dv)(l:La)(slot:Int):Option Hd:=if v.check (a1e l slot)≠0 then none else b4U l slot (a7V ((v.image.drop ((a1e l slot).toNat*64)).take 64) (a1e l slot).toNat)
theorem c6A(v:Dv)(l:La):HOk 5 (a1c v++[some (.cells [.int .i64 l.id,.int .i64 l.ver,.int .i64 l.rs,.int .i64 l.regs] 23),some zOh]):=fun j o' ho=>by
 match j,ho with
 | 0,ho=>cases ho;exact ⟨by simp [a0g],by simp [a0g],trivial,trivial,trivial,trivial⟩
 | 1,ho=>cases ho;exact a0h fun _=>a0n
 | 2,ho=>cases ho;exact ⟨by rw [List.map_map];exact a0h fun _=>trivial,by rw [List.map_map];exact a0h fun p=>(a0h (f:=u8A) fun _=>a0n:a0e _ (p.2.map u8A))⟩
 | 3,ho=>cases ho;exact ⟨trivial,trivial,trivial,trivial,trivial⟩
 | 4,ho=>cases ho;exact ⟨trivial,trivial,trivial,trivial,trivial,trivial,trivial⟩
theorem c5f(X:Nat->Prop)(v:Dv)(hv:v.Inv)(l:La)(slot:Int):a0b (E0 X) 112 [.ptr 0 0,laA l,.int .i64 slot] (a1c v) (fun r H'=>r=c6V (a3s v l slot)/\H'=a1c v):=by
 have hlv:v.image.length<=1073741824:=by have:=hv.load.2.2;omega
 refine a0b.cutDv ?_ ⟨a4C,trivial,trivial⟩
 have hfi:=fun X=>b2i X l slot
 have hrd:=fun R=>a6z X v (a1e l slot) hlv [] R 0 rfl
 have hci:=fun h=>a5Q hv (i:=a1e l slot) h
 unfold a3s
 generalize a1e l slot=fi at *
 show a0b (E0 X) 112 [.ptr 0 0,.agg [.int .i64 l.id,.int .i64 l.ver,.int .i64 l.rs,.int .i64 l.regs],.int .i64 slot] (a1c v) _
 refine Z0 Proofs.Tryz.func112 rfl Proofs.Tryz.ntmps112 (by kernel_rfl) rfl ?_
 repeat' (first|refine Zs rfl ?_|refine Zc rfl ?_|refine Qa rfl ?_)
 refine Cn rfl (a0f (E:=E0 X) (fun X=>hfi X) (by simp [a0e,a0g]) _) rfl rfl ?_
 repeat' (first|refine Zs rfl ?_|refine Zc rfl ?_|refine Qa rfl ?_)
 by_cases hc:v.check fi=0
 ·rw [if_neg (by rw [hc];simp)]
  obtain ⟨-,k,rfl,hk⟩:=hci hc
  rw [Int.toNat_natCast] at *
  have hk20:k<1048576:=by have:=hv.load.2.2;omega
  have hbl:((v.image.drop (k*64)).take 64).length=64:=by simp;omega
  generalize (v.image.drop (k*64)).take 64=bb at *
  refine a1h (fun _=>rfl) rfl ?_
  refine a0b.mono (hrd [some (.cells [.int .i64 l.id,.int .i64 l.ver,.int .i64 l.rs,.int .i64 l.regs] 23),some zOh]) ?_
  rintro r H' (⟨hc2,-,-⟩|⟨-,rfl,rfl⟩)
  ·exact absurd hc hc2
  refine nx rfl rfl ?_
  repeat' (first|((refine Qa rfl ?_);(first|refine Q0 ?_|refine Q1 ?_|refine QC rfl rfl ?_);(refine QX rfl rfl ?_))|refine Qh ?_)
  refine a2s ?_
  refine a0t (Imp.trans (a0M (id:=5) (k:=1) (es:=bb.map u8A) (e:=5) rfl rfl rfl) (a0i 5 (by simp [a1c]) (c6A v l) rfl (by simp [b5E])
   (sl':=[(0,.ptr 0 0),(2,.int .i64 slot),(4,.ptr 3 0),(6,.ptr 4 0),(8,.int .i64 (k:Int)),(9,.sl 1 (bb.map u8A)),(10,.int .i64 0)]) ?_)) ?_
  ·repeat' (first|exact a0k|refine a0a ⟨?_,?_⟩ ?_)
   all_goals (try first|exact rfl|exact trivial|(simp [a0g,a0e];done))
   ·show frz 5 1 (bb.map u8A) (.own 5 0 64)=_
    simp [frz,hbl,List.take_of_length_le]
  repeat' (first|refine Zs rfl ?_|refine Zc rfl ?_|refine Qa rfl ?_)
  refine Cn rfl (a0f (E:=E0 X) (fun X=>c6o X bb k hk20 (by omega)) (by simp [a0e,a0g]) _) rfl rfl ?_
  cases hd:a7V bb k with
  | none =>
   repeat' (first|refine Zs rfl ?_|refine Zc rfl ?_|refine Zh ?_|refine Qs ?_)
   exact a0c ⟨_,rfl,rfl,rfl⟩
  | some h =>
   repeat' (first|refine Zs rfl ?_|refine Zc rfl ?_)
   by_cases hne:h.ver=l.ver
   rotate_left
   ·rw [decide_eq_true (show ((some h).getD a3E).ver≠l.ver from hne)]
    have ef:b4U l slot (some h)=none:=if_neg fun hh=>hne hh.1
    rw [ef]
    repeat' (first|refine Zs rfl ?_|refine Zc rfl ?_|refine Zh ?_|refine Qs ?_)
    exact a0c ⟨_,rfl,rfl,rfl⟩
   have h1:=hne
   clear hne
   rw [decide_eq_false (show ¬ ((some h).getD a3E).ver≠l.ver from fun hh=>hh h1)]
   repeat' (refine Zs rfl ?_)
   by_cases hne:h.lay=l.id
   rotate_left
   ·rw [decide_eq_true (show ((some h).getD a3E).lay≠l.id from hne)]
    have ef:b4U l slot (some h)=none:=if_neg fun hh=>hne hh.2.1
    rw [ef]
    repeat' (first|refine Zs rfl ?_|refine Zc rfl ?_|refine Zh ?_|refine Qs ?_)
    exact a0c ⟨_,rfl,rfl,rfl⟩
   have h2:=hne
   clear hne
   rw [decide_eq_false (show ¬ ((some h).getD a3E).lay≠l.id from fun hh=>hh h2)]
   repeat' (first|refine Zs rfl ?_|refine Zh ?_|refine Qs ?_)
   by_cases hne:h.slot=slot
   rotate_left
   ·rw [decide_eq_true (show ((some h).getD a3E).slot≠slot from hne)]
    have ef:b4U l slot (some h)=none:=if_neg fun hh=>hne hh.2.2
    rw [ef]
    repeat' (first|refine Zs rfl ?_|refine Zc rfl ?_|refine Zh ?_|refine Qs ?_)
    exact a0c ⟨_,rfl,rfl,rfl⟩
   rw [decide_eq_false (show ¬ ((some h).getD a3E).slot≠slot from fun hh=>hh hne)]
   have ef:b4U l slot (some h)=some h:=if_pos ⟨h1,h2,hne⟩
   rw [ef]
   repeat' (first|refine Zs rfl ?_|refine Zc rfl ?_|refine Zh ?_|refine Qs ?_)
   exact a0c ⟨_,rfl,rfl,rfl⟩
 rw [if_pos hc]
 refine a1h (fun _=>rfl) rfl ?_
 refine a0b.mono (hrd [some (.cells [.int .i64 l.id,.int .i64 l.ver,.int .i64 l.rs,.int .i64 l.regs] 23),some zOh]) ?_
 rintro r H' (⟨-,rfl,rfl⟩|⟨hc2,-,-⟩)
 rotate_left
 ·exact absurd hc2 hc
 refine nx rfl rfl ?_
 repeat' (first|refine Zs rfl ?_|refine Zc rfl ?_|refine Zh ?_|refine Qs ?_)
 refine a0d rfl (fun h4=>?_) (fun h4=>?_)
 ·repeat' (first|refine Zs rfl ?_|refine Zc rfl ?_|refine Zh ?_|refine Qs ?_)
  exact a0c ⟨_,rfl,rfl,rfl⟩
 ·exact absurd (by omega) hc
theorem a4Z{E:Env}{N n0:Nat}{H:Hp}{r r':AV}(h:∀m w v,E.Rel m w r v->E.Rel m w r' v):Imp E N n0 ⟨[(0,r)],H⟩ ⟨[(0,r')],H⟩:=fun _ _ _ m w a he hs=>by
 refine ⟨m,he,⟨hs.ok,fun k=>?_,hs.size,hs.defers,hs.sim,hs.glob⟩⟩
 have h1:=hs.slots k
 by_cases hk:k=0
 ·subst hk;exact h _ _ _ h1
 have e:∀x:AV,get [(0,x)] k=.any:=fun x=>by
  match k,hk with
  | 0,hk=>exact absurd rfl hk
  | _+1,_=>rfl
 show Abs.Rel E.cx m w (get [(0,r')] k) _
 rw [e]
 simp [Abs.Rel]
theorem a0b.weakRv{E:Env}{f:FuncId}{args:List AV}{H:Hp}{R R':AV->Hp->Prop}(h:a0b E f args H R)(k:∀r H',R r H'->∃r',R' r' H'/\∀m w v,E.Rel m w r v->E.Rel m w r' v):a0b E f args H R' :=
 h.imp fun r H' hr=>by
  obtain ⟨r',h1,h2⟩:=k r H' hr
  exact ⟨r',H',h1,a4Z h2⟩
def iA(n:Int):AV:=.int .i64 n
theorem a5e(l:List Int){n:Nat}:a0e n (l.map iA):=a0h fun _=>trivial
theorem b7z(l:List Int):a2N (l.map iA):=fun y hy=>by
 obtain ⟨b,_,rfl⟩:=List.mem_map.1 hy;exact ⟨rfl,rfl⟩
def a3M(l:La)(slot:Int):Prop:=a1f l=true/\0<=slot/\slot<l.regs
def a4s(l:La)(slot:Int)(n:Nat):List Int:=(List.range n).map fun (i:Nat)=>74+slot*l.rs+(i:Int)
theorem b5r(l:La)(slot:Int)(n:Nat):a4s l slot (n+1)=a4s l slot n++[74+slot*l.rs+(n:Int)]:=by simp [a4s,List.range_succ]
theorem a6l(l:La)(slot:Int)(n:Nat):(a4s l slot n).length=n:=by simp [a4s]
theorem a6k(l:La)(slot:Int){n i:Nat}(h:i<n):(a4s l slot n)[i]?=some (74+slot*l.rs+(i:Int)):=by simp [a4s,h]
theorem c6z(l:La)(o:List Int):HOk 2 [some (.cells [.int .i64 l.id,.int .i64 l.ver,.int .i64 l.rs,.int .i64 l.regs] 23),some (.arr (o.map iA) 3)]:=fun j o' ho=>by
 match j,ho with
 | 0,ho=>cases ho;exact ⟨trivial,trivial,trivial,trivial,trivial⟩
 | 1,ho=>cases ho;exact a5e _
theorem a9o(X:Nat->Prop)(l:La)(slot:Int)(h:¬ a3M l slot):a0b (E0 X) 71 [laA l,.int .i64 slot] [] (fun r H'=>r=.sl 1 (([]:List Int).map iA)/\H'=[]):=by
 refine a0b.cut0 ?_ (a5e [])
 refine a0b.weakRv (R:=fun r _=>r=.nils) ?_ (fun r H' h=>by subst h;exact ⟨_,rfl,fun m w v h=>a2Y 1 h⟩)
 refine Z0 Proofs.Tryz.func71 rfl Proofs.Tryz.ntmps71 (by kernel_rfl) rfl ?_
 repeat' (first|refine Zs rfl ?_|refine Zc rfl ?_|refine Qa rfl ?_)
 refine Cn rfl (a0f (E:=E0 X) (fun X=>a4H X l) (by simp [a0e,a0g]) _) rfl rfl ?_
 cases hf:a1f l with
 | false =>
  repeat' (first|refine Zs rfl ?_|refine Zc rfl ?_|refine Zh ?_|refine Qs ?_)
  exact a0c ⟨_,rfl,rfl⟩
 | true =>
  by_cases h1:slot<0
  ·repeat' (refine Zs rfl ?_)
   rw [decide_eq_true h1]
   repeat' (first|refine Zs rfl ?_|refine Zc rfl ?_|refine Zh ?_|refine Qs ?_)
   exact a0c ⟨_,rfl,rfl⟩
  have h2:l.regs<=slot:=by
   rcases Int.lt_or_le slot l.regs with h3|h3
   ·exact absurd ⟨hf,by omega,h3⟩ h
   ·exact h3
  repeat' (refine Zs rfl ?_)
  rw [decide_eq_false h1]
  repeat' (first|refine Zs rfl ?_|refine Zh ?_|refine Qs ?_)
  rw [decide_eq_true h2]
  repeat' (first|refine Zs rfl ?_|refine Zc rfl ?_|refine Zh ?_|refine Qs ?_)
  exact a0c ⟨_,rfl,rfl⟩
theorem a5E(X:Nat->Prop)(l:La)(slot:Int)(h:a3M l slot):a0b (E0 X) 71 [laA l,.int .i64 slot] [] (fun r H'=>r=.sl 1 ((a4s l slot l.rs.toNat).map iA)/\H'=[]):=by
 refine a0b.frz0 (e:=3) 1 ?_ rfl rfl (a5e _)
 obtain ⟨hf,h0,h1⟩:=h
 have hm:=a2Z hf h0 h1
 have hr:=a1M hf
 have hfc:=fun X=>a4H X l
 rw [hf] at hfc
 have hne1:¬ slot<0:=by omega
 have hne2:¬ l.regs<=slot:=by omega
 show a0b (E0 X) 71 [.agg [.int .i64 l.id,.int .i64 l.ver,.int .i64 l.rs,.int .i64 l.regs],.int .i64 slot] [] _
 refine Z0 Proofs.Tryz.func71 rfl Proofs.Tryz.ntmps71 (by kernel_rfl) rfl ?_
 repeat' (first|refine Zs rfl ?_|refine Zc rfl ?_|refine Qa rfl ?_)
 refine Cn rfl (a0f (E:=E0 X) (fun X=>hfc X) (by simp [a0e,a0g]) _) rfl rfl ?_
 repeat' (refine Zs rfl ?_)
 rw [decide_eq_false hne1]
 repeat' (first|refine Zs rfl ?_|refine Zh ?_|refine Qs ?_)
 rw [decide_eq_false hne2]
 repeat' (first|refine Zs rfl ?_|refine Zc rfl ?_)
 refine a0q (fun i:Nat=>⟨[(1,.int .i64 slot),(2,.ptr 0 0),(5,.own 1 0 i),(6,.int .i64 (i:Int))],[some (.cells [.int .i64 l.id,.int .i64 l.ver,.int .i64 l.rs,.int .i64 l.regs] 23),some (.arr ((a4s l slot i).map iA) 3)]⟩) (fun i=>i<=l.rs.toNat) (fun i=>l.rs.toNat - i) 0 (Nat.zero_le _) ?_ ?_
 ·exact Imp.trans (imp_nil 5 3 rfl) (kk 2 (c6z l []) rfl (by simp [a0g,a0e]))
 rintro i hi
 have hlen:=a6l l slot i
 have hsuc:=b5r l slot i
 repeat' (first|refine Zs rfl ?_|refine Zc rfl ?_|refine Zh ?_|refine Qs ?_)
 refine a0d rfl (fun h3=>?_) (fun h3=>?_)
 ·repeat' (first|refine Zs rfl ?_|refine Zc rfl ?_|refine Qa rfl ?_)
  rw [hm.1,show IntKind.i64.wrap (74+slot*l.rs+(i:Int))=74+slot*l.rs+(i:Int) from a0p (by omega) (by omega)]
  refine a0V (oid:=some 1) (es:=(a4s l slot i).map iA) (out:=(a4s l slot (i+1)).map iA) (n:=i+1) (a0J rfl (by rw [List.length_map,hlen])) (rfl) (b7z [74+slot*l.rs+(i:Int)]) (by rw [hsuc,List.map_append];rfl) (by rw [List.length_map,hlen];rfl) (by show _<=9223372036854775807;omega) (by show _*8<=_;omega) rfl rfl rfl rfl rfl rfl rfl rfl ?_
  refine nx rfl rfl ?_
  repeat' (first|refine Zs rfl ?_|refine Zc rfl ?_|refine Zh ?_|refine Qs ?_)
  refine ⟨i+1,by omega,by omega,?_⟩
  refine a0L 1 [2] (H':=[some (.cells [.int .i64 l.id,.int .i64 l.ver,.int .i64 l.rs,.int .i64 l.regs] 23),some (.arr ((a4s l slot (i+1)).map iA) 3)]) (os:=[.arr ((a4s l slot (i+1)).map iA) 3]) (Nat.zero_le _) ?_ ?_ ?_ ?_ rfl ?_ ?_ ?_
  ·simp
  ·simp
  ·simp
  ·intro j o ho
   match j,ho with
   | 0,ho=>cases ho;exact ⟨trivial,trivial,trivial,trivial,trivial⟩
  ·rfl
  ·refine a0a (a0s rfl trivial) (a0a (a0s rfl (by simp [a0g])) (a0a (a0D rfl) (a0a (a0s ?_ trivial) a0k)))
   exact congrArg (AV.int .i64) (a0u (by omega) (by omega) (by omega))
  ·exact a0v rfl (a0A 1 a1V (a5e _)) a0N
 have hii:i=l.rs.toNat:=by omega
 repeat' (first|refine Zs rfl ?_|refine Zc rfl ?_|refine Zh ?_|refine Qs ?_)
 refine a0c ⟨_,rfl,1,_,rfl,?_,?_⟩
 ·rw [<- hii,List.length_map,hlen]
 ·rw [<- hii];rfl
def a5c(img:List UInt8)(s:Int):List UInt8:=if s<0\/(img.length:Int)<s*64+64 then [] else (img.drop (s.toNat*64)).take 64
def a2O(img:List UInt8)(l:La)(slot:Int):Option Hd:=if a1f l=true/\0<=slot/\slot<l.regs then b4U l slot (a7V (a5c img (74+slot*l.rs)) (74+slot*l.rs).toNat) else none
structure Rec where
 kind:Int
 key:List UInt8
 val:List UInt8
 exp:Int
def c7i(r:Rec):List AV:=[.int .i64 r.kind,.sl 1 (r.key.map u8A),.sl 1 (r.val.map u8A),.int .i64 r.exp]
def a6Z(r:Rec):AV:=.agg (c7i r)
@[simp] theorem a2F{n:Nat}{r:Rec}:a0g n (a6Z r):=⟨trivial,a0h fun _=>a0n,a0h fun _=>a0n,trivial,trivial⟩
def b9A(ver:Int):Int:=if ver=1 then 4294967295 else 1099511627775
def a3U(ver:Int)(r:Rec):Int :=
 if ver≠1/\ver≠2 then 2 else
 if (r.kind<1\/3<r.kind)\/(r.kind≠1/\(0<(r.val.length:Int)\/r.exp≠0))\/(r.kind=3/\0<(r.key.length:Int)) then 4 else
 if r.kind≠3/\((r.key.length:Int)=0\/255<(r.key.length:Int)) then 5 else
 if 65536<(r.val.length:Int) then 6 else
 if r.exp<0\/b9A ver<r.exp then 7 else 0
theorem c0B(X:Nat->Prop)(ver:Int):a0b (E0 X) 216 [.int .i64 ver] [] (fun r H'=>r=.int .i64 (b9A ver)/\H'=[]):=by
 refine Z0 Proofs.Tryz.func216 rfl Proofs.Tryz.ntmps216 (by kernel_rfl) rfl ?_
 repeat' (first|refine Zb rfl rfl ?_|refine Zc rfl ?_)
 refine a0d rfl (fun h=>?_) (fun h=>?_)
 ·repeat' (first|refine Zb rfl rfl ?_|refine Zc rfl ?_)
  exact a0c ⟨_,rfl,congrArg (AV.int .i64) (if_pos h).symm,rfl⟩
 ·repeat' (first|refine Zb rfl rfl ?_|refine Zc rfl ?_)
  exact a0c ⟨_,rfl,congrArg (AV.int .i64) (if_neg h).symm,rfl⟩
theorem b6e(X:Nat->Prop)(ver:Int)(r:Rec):a0b (E0 X) 183 [.int .i64 ver,a6Z r] [] (fun q H'=>q=.int .i64 (a3U ver r)/\H'=[]):=by
 refine a0b.cut0 ?_ trivial
 have hla:Pur (E0 X) 216 [.int .i64 ver] (.int .i64 (b9A ver)):=⟨⟨trivial,trivial⟩,fun Y=>c0B Y ver⟩
 obtain ⟨kind,key,val,exp⟩:=r
 unfold a3U
 refine Z0 Proofs.Tryz.func183 rfl Proofs.Tryz.ntmps183 (by kernel_rfl) rfl ?_
 repeat' (first|refine Zb rfl rfl ?_|refine Zs rfl ?_|refine Zc rfl ?_)
 refine a0H rfl (fun h1=>?_) (fun h1=>?_)
 ·repeat' (first|refine Zb rfl rfl ?_|refine Zc rfl ?_)
  exact a0c ⟨_,rfl,congrArg (AV.int .i64) (by grind)⟩
 repeat' (first|refine Zb rfl rfl ?_|refine Zc rfl ?_)
 refine a0H rfl (fun h2=>?_) (fun h2=>?_)
 ·rw [h2]
  repeat' (first|refine Zb rfl rfl ?_|refine Zc rfl ?_)
  exact a0c ⟨_,rfl,congrArg (AV.int .i64) (by grind)⟩
 rw [h2]
 repeat' (first|refine Zb rfl rfl ?_|refine Zc rfl ?_)
 refine a0H rfl (fun h3=>?_) (fun h3=>?_)
 ·rw [h3]
  repeat' (first|refine Zb rfl rfl ?_|refine Zc rfl ?_)
  exact a0c ⟨_,rfl,congrArg (AV.int .i64) (by grind)⟩
 rw [h3]
 repeat' (refine Zb rfl rfl ?_)
 refine a0H rfl (fun h4=>?_) (fun h4=>?_)
 ·repeat' (first|refine Zb rfl rfl ?_|refine Zc rfl ?_)
  exact a0c ⟨_,rfl,congrArg (AV.int .i64) (by grind)⟩
 repeat' (first|refine Zb rfl rfl ?_|refine Zc rfl ?_)
 refine a0H rfl (fun h5=>?_) (fun h5=>?_)
 ·repeat' (first|refine Zb rfl rfl ?_|refine Zc rfl ?_)
  exact a0c ⟨_,rfl,congrArg (AV.int .i64) (by grind)⟩
 repeat' (first|refine Zb rfl rfl ?_|refine Zc rfl ?_)
 refine a0H rfl (fun h6=>?_) (fun h6=>?_)
 ·repeat' (first|refine Zb rfl rfl ?_|refine Zc rfl ?_)
  exact a0c ⟨_,rfl,congrArg (AV.int .i64) (by grind)⟩
 repeat' (refine Zc rfl ?_)
 refine a0m [] [] (by exact rfl) (by kernel_rfl) ?_
 repeat' (refine Zd rfl ?_)
 by_cases h7:exp<0
 ·rw [decide_eq_true h7]
  repeat' (first|refine Zb rfl rfl ?_|refine Zc rfl ?_|refine Zd rfl ?_)
  exact a0c ⟨_,rfl,congrArg (AV.int .i64) (by grind)⟩
 rw [decide_eq_false h7]
 repeat' (refine Zd rfl ?_)
 refine Zq rfl rfl rfl rfl (hla) rfl ?_
 repeat' (first|refine Zd rfl ?_|refine Zk ?_)
 refine a0H rfl (fun h8=>?_) (fun h8=>?_)
 ·repeat' (first|refine Zb rfl rfl ?_|refine Zc rfl ?_)
  exact a0c ⟨_,rfl,congrArg (AV.int .i64) (by grind)⟩
 repeat' (first|refine Zb rfl rfl ?_|refine Zc rfl ?_)
 exact a0c ⟨_,rfl,congrArg (AV.int .i64) (by grind)⟩
def a1K(r:Rec):Nat:=16+r.key.length+r.val.length
def Rec.short(r:Rec):Rec:={ r with key:=r.key.take 260,val:=r.val.take 200 }
theorem a8y(X:Nat->Prop)(r:Rec)(hk:r.key.length<=1073741824)(hv:r.val.length<=1073741824):a0b (E0 X) 75 [a6Z r] [] (fun q H'=>q=.int .i64 (a1K r:Int)/\H'=[]):=by
 refine a0b.cut0 ?_ trivial
 have e1:IntKind.i64.wrap (16+((r.key.map u8A).length:Int))=((16+r.key.length:Nat):Int):=a0u (by rw [List.length_map];omega) (by omega) (by omega)
 have e2:IntKind.i64.wrap (((16+r.key.length:Nat):Int)+((r.val.map u8A).length:Int))=(a1K r:Int):=a0u (by rw [List.length_map];unfold a1K;omega) (by unfold a1K;omega) (by unfold a1K;omega)
 refine Z0 Proofs.Tryz.func75 rfl Proofs.Tryz.ntmps75 (by kernel_rfl) rfl ?_
 repeat' (first|refine Zs rfl ?_|refine Zc rfl ?_|refine Zh ?_|refine Qs ?_)
 rw [e1,e2]
 exact a0c ⟨_,rfl,rfl⟩
theorem a7B(X:Nat->Prop)(ver:Int)(r:Rec):a0b (E0 X) 76 [.int .i64 ver,a6Z r] [] (fun q H'=>q=.int .i64 (a3U ver r)/\H'=[]):=by
 refine a0b.cut0 ?_ trivial
 obtain ⟨kind,key,val,exp⟩:=r
 unfold a3U b9A
 refine Z0 Proofs.Tryz.func76 rfl Proofs.Tryz.ntmps76 (by kernel_rfl) rfl ?_
 repeat' (first|refine Zb rfl rfl ?_|refine Zs rfl ?_|refine Zc rfl ?_)
 refine a3f (s1:=⟨[(0,.int .i64 ver),(3,.ptr 0 0),(5,.int .i64 (if ver=2 then 1099511627775 else 4294967295))],[some (.cells (c7i ⟨kind,key,val,exp⟩) 72)]⟩) ?_ ?_
 ·by_cases h:ver=2
  ·rw [decide_eq_true h,if_pos h]
   repeat' (first|refine Zs rfl ?_|refine Zc rfl ?_)
   exact ⟨rfl,kk 1 (fun j o ho=>by match j,ho with|0,ho=>cases ho;exact (a2F:a0g 1 (a6Z ⟨kind,key,val,exp⟩))) rfl ⟨trivial,Nat.zero_lt_one,trivial,trivial⟩⟩
  rw [decide_eq_false h,if_neg h]
  repeat' (refine Zc rfl ?_)
  exact ⟨rfl,kk 1 (fun j o ho=>by match j,ho with|0,ho=>cases ho;exact (a2F:a0g 1 (a6Z ⟨kind,key,val,exp⟩))) rfl ⟨trivial,Nat.zero_lt_one,trivial,trivial⟩⟩
 repeat' (first|refine Zb rfl rfl ?_|refine Zc rfl ?_)
 refine a0H rfl (fun h1=>?_) (fun h1=>?_)
 ·repeat' (first|refine Zb rfl rfl ?_|refine Zc rfl ?_)
  exact a0c ⟨_,rfl,congrArg (AV.int .i64) (by grind)⟩
 repeat' (first|refine Zb rfl rfl ?_|refine Zc rfl ?_)
 refine a0H rfl (fun h2=>?_) (fun h2=>?_)
 all_goals simp at h1 h2
 ·repeat' (first|refine Zb rfl rfl ?_|refine Zc rfl ?_)
  exact a0c ⟨_,rfl,congrArg (AV.int .i64) (by grind)⟩
 repeat' (first|refine Zb rfl rfl ?_|refine Zc rfl ?_)
 refine a0H rfl (fun h4=>?_) (fun h4=>?_)
 ·repeat' (first|refine Zb rfl rfl ?_|refine Zc rfl ?_)
  exact a0c ⟨_,rfl,congrArg (AV.int .i64) (by grind)⟩
 repeat' (first|refine Zb rfl rfl ?_|refine Zc rfl ?_)
 refine a0H rfl (fun h5=>?_) (fun h5=>?_)
 ·repeat' (first|refine Zb rfl rfl ?_|refine Zc rfl ?_)
  exact a0c ⟨_,rfl,congrArg (AV.int .i64) (by grind)⟩
 repeat' (first|refine Zb rfl rfl ?_|refine Zc rfl ?_)
 refine a0H rfl (fun h6=>?_) (fun h6=>?_)
 ·repeat' (first|refine Zb rfl rfl ?_|refine Zc rfl ?_)
  exact a0c ⟨_,rfl,congrArg (AV.int .i64) (by grind)⟩
 repeat' (first|refine Zb rfl rfl ?_|refine Zc rfl ?_)
 exact a0c ⟨_,rfl,congrArg (AV.int .i64) (by grind)⟩
end Go.Abs
