/- Regions that draw their order. Joined texts, each with what its own name promises; no condition beyond those stated. -/
import Derived.Test.YtkmmdlicifiknaaGreatDoorCA
import Derived.ProofKit
import Derived.Deep.Slices
import Derived.Laws.CopyRow
import Derived.Laws.IdiomCopy
import Derived.Laws.IdiomStrings
import Derived.Lib.SliceRun
set_option maxHeartbeats 0
set_option maxRecDepth 100000
set_option linter.unusedVariables false
set_option linter.unusedSimpArgs false
namespace Go.Abs
section
variable{E:Env}{N n0:Nat}{Q:Exit->St->Prop}{s:St}
abbrev Sf:=Nat->AV
def upd(d:Option Nat)(v:AV)(σ:Sf):Sf:=match d with
 | some d=>fun k=>if d=k then v else σ k
 | none=>σ
theorem a2t{d:Option Nat}{v:AV}{sl:List (Nat × AV)}:get (put d v sl)=upd d v (get sl):=by
 funext k
 rw [a9g]
 cases d<;>simp [upd]
theorem b3Z{d d':Option Nat}{v v':AV}{σ:Sf}(h:∀k,d=some k->d'≠some k):upd d v (upd d' v' σ)=upd d' v' (upd d v σ):=by
 cases d with
 | none=>rfl
 | some d =>
  cases d' with
  | none=>rfl
  | some d' =>
   have hne:d'≠d:=fun e=>h d rfl (by rw [e])
   funext k
   simp only [upd]
   by_cases h1:d=k<;>by_cases h2:d'=k<;>simp [h1,h2]
   omega
def a4w(o:Oper):List Nat:=o.op.operands.toList.filterMap fun|.tmp t=>some t|_=>none
def evF(E:Env)(ts:List Nat)(σ:Sf):Operand->AV
 | .tmp t=>cond (ts.contains t) (σ t) .any
 | .const v=>ofV v
 | .global g=>E.G g
 | .func f=>.clo (.func f) [] []
def a2a(ops:Array Oper)(o:Oper)(σ:Sf):Option Bool :=
 match o.guard with
 | none=>some true
 | some (j,want)=>match (ops[j]?).bind (·.dst) with
  | none=>some false
  | some d=>match σ d with
   | .bool b=>some (b == want)
   | .tup []=>some false
   | _=>none
theorem a1G{ops:Array Oper}{o:Oper}{sl:List (Nat × AV)}:a2a ops o (get sl)=a0H ops o sl:=rfl
theorem b5M{o:Oper}{ops:Array Oper}{d:Option Nat}{v:AV}{σ:Sf}(h:∀k,d=some k->k ∉ o.looksAt ops):evF E (a4w o) (upd d v σ)=evF E (a4w o) σ:=by
 funext x
 cases x with
 | tmp t =>
  simp only [evF]
  cases hc:(a4w o).contains t with
  | false=>rfl
  | true =>
   cases d with
   | none=>rfl
   | some d =>
    have hm:t∈a4w o:=by simpa using hc
    have hne:d≠t:=fun e=>h d rfl (by subst e;exact List.mem_append_left _ hm)
    simp [upd,hne]
 | _=>rfl
theorem a8i{o:Oper}{ops:Array Oper}{d:Option Nat}{v:AV}{σ:Sf}(h:∀k,d=some k->k ∉ o.looksAt ops):a2a ops o (upd d v σ)=a2a ops o σ:=by
 unfold a2a
 cases hg:o.guard with
 | none=>rfl
 | some gw =>
  obtain ⟨j,want⟩:=gw
  cases hd:(ops[j]?).bind (·.dst) with
  | none=>simp only [hd]
  | some d2 =>
   cases d with
   | none=>rfl
   | some d =>
    have hne:d≠d2:=fun e=>h d rfl (by subst e;simp [Oper.looksAt,hg,hd])
    have e2:upd (some d) v σ d2=σ d2:=by simp [upd,hne]
    simp only [hd,e2]
theorem a1e{o:Oper}{ρ:Operand->AV}{H:Hp}{K K':AV->Hp->Prop}(h:a0z E o ρ H K)(k:∀r H',K r H'->K' r H'):a0z E o ρ H K':=fun m w a h1 h2 h3 h4 Q =>
 Oper.wp_mono (fun _ _ ⟨v',h0,m',r,H',a1,a2,a3,a4⟩=>⟨v',h0,m',r,H',a1,a2,a3,k _ _ a4⟩) (h m w a h1 h2 h3 h4 Q)
def mOp(E:Env)(ops:Array Oper)(ef so:List Nat)(i:Nat)(K:Sf->Hp->Prop)(σ:Sf)(H:Hp):Prop :=
 match ops[i]? with
 | none=>False
 | some o =>
  match a2a ops o σ with
  | none=>False
  | some false=>K (upd o.dst (.tup []) σ) H
  | some true =>
   if ef.contains i then a0z E o (evF E (a4w o) σ) H (fun r H'=>K (upd o.dst r σ) H')
   else if so.contains i then ∃v,(∀H,a0z E o (evF E (a4w o) σ) H (fun r H'=>r=v/\H'=H))/\K (upd o.dst v σ) H
   else ∃v,a0z E o (evF E (a4w o) σ) H (fun r H'=>r=v/\H'=H)/\K (upd o.dst v σ) H
theorem b3o{ops:Array Oper}{ef so:List Nat}{i:Nat}{K K':Sf->Hp->Prop}{σ:Sf}{H:Hp}(k:∀ σ H,K σ H->K' σ H)(h:mOp E ops ef so i K σ H):mOp E ops ef so i K' σ H:=by
 unfold mOp at *
 split
 ·rename_i ho;simp only [ho] at h
 rename_i o ho
 simp only [ho] at h
 split
 ·rename_i hw;simp only [hw] at h
 ·rename_i hw;simp only [hw] at h;exact k _ _ h
 rename_i hw
 simp only [hw] at h
 split
 ·rename_i he;rw [if_pos he] at h;exact a1e h fun _ _=>k _ _
 rename_i he
 rw [if_neg he] at h
 split
 ·rename_i hs;rw [if_pos hs] at h;obtain ⟨v,h1,h2⟩:=h;exact ⟨v,h1,k _ _ h2⟩
 ·rename_i hs;rw [if_neg hs] at h;obtain ⟨v,h1,h2⟩:=h;exact ⟨v,h1,k _ _ h2⟩
def anyM(E:Env)(ops:Array Oper)(ef so:List Nat)(R:Sf->Hp->Prop):Nat->Array Bool->Sf->Hp->Prop
 | 0,listed,σ,H=>Region.ready .any ops listed=[]/\R σ H
 | fuel+1,listed,σ,H=>(Region.ready .any ops listed=[]->R σ H)/\∀i∈Region.ready .any ops listed,mOp E ops ef so i (anyM E ops ef so R fuel (listed.setIfInBounds i true)) σ H
structure a7q(E:Env)(N:Nat)(m:Mu)(w:World)(σ:Sf)(H:Hp)(a:Act):Prop where
 ok:E.Ok
 slots:∀k,E.Rel m w (σ k) (a.tmps.getD k undef)
 size:a.tmps.size=N
 defers:a.defers=[]
 sim:E.Sim m w H
 glob:∀g,E.Rel m w (E.G g) (.pointer (some ⟨g,0,none⟩))
theorem a7q.put{m:Mu}{w:World}{σ:Sf}{H:Hp}{a:Act}(h:a7q E N m w σ H a){m':Mu}{w':World}(he:Ext m w m' w'){d:Option Nat}(hd:∀k,d=some k->k<N){r:AV}{v:Value}
  (hr:E.Rel m' w' r v) {H':Hp} (hH:E.Sim m' w' H'):a7q E N m' w' (upd d r σ) H' (a.put d v):=by
 refine ⟨h.ok,fun k=>?_,?_,?_,hH,fun g=>(h.glob g).ext he⟩
 ·by_cases hk:d=some k
  ·subst hk
   have hlt:k<a.tmps.size:=by rw [h.size];exact hd k rfl
   have:(a.put (some k) v).tmps.getD k undef=v:=by simp [Act.put,hlt]
   rw [this];simpa [upd] using hr
  have:(a.put d v).tmps.getD k undef=a.tmps.getD k undef:=by
   cases d with
   | none=>rfl
   | some j =>
    have hne:j≠k:=fun e=>hk (by rw [e])
    simp [Act.put,Array.getElem?_setIfInBounds_ne hne]
  rw [this]
  have h2:upd d r σ k=σ k:=by
   cases d with
   | none=>rfl
   | some j =>
    have hne:j≠k:=fun e=>hk (by rw [e])
    simp [upd,hne]
  rw [h2];exact (h.slots k).ext he
 ·cases d<;>simp [Act.put,h.size]
 ·cases d<;>simp [Act.put,h.defers]
theorem b4U{ops:Array Oper}{o:Oper}{m:Mu}{w:World}{σ:Sf}{H:Hp}{a:Act}{b:Bool}(h:a7q E N m w σ H a)(hw:a2a ops o σ=some b):Region.wanted o (yielded ops a.tmps)=b:=by
 -- by the law for lists of slots, at the one slot that is looked at
 cases hg:o.guard with
 | none=>simp [a2a,hg] at hw;simp [Region.wanted,hg,hw]
 | some gw =>
  obtain ⟨j,want⟩:=gw
  cases hd:(ops[j]?).bind (·.dst) with
  | none=>simp [a2a,hg,hd] at hw;subst hw;simp [Region.wanted,hg,yielded,hd]
  | some d =>
   have hs:a2k E N m w ⟨[(d,σ d)],H⟩ a:=⟨h.ok,fun k=>by
    show Abs.Rel E.cx m w (get [(d,σ d)] k) _
    rw [a0R]
    split
    ·rename_i e;subst e;exact h.slots d
    ·simp [get,Abs.Rel],h.size,h.defers,h.sim,h.glob⟩
   refine a3B hs ?_
   simp only [a2a,hg,hd] at hw
   simp only [a0H,hg,hd,a0R,if_true]
   exact hw
theorem c1x{m:Mu}{w:World}{σ:Sf}{H:Hp}{a:Act}(h:a7q E N m w σ H a)(ts:List Nat)(x:Operand):E.Rel m w (evF E ts σ x) (a.eval x):=by
 cases x with
 | tmp t =>
  simp only [evF]
  cases ts.contains t with
  | true=>exact h.slots t
  | false=>show Abs.Rel _ _ _ _ _;simp [Abs.Rel]
 | const v=>exact b7m v
 | global g=>exact h.glob g
 | func f =>
  show Abs.Rel E.cx m w (.clo (.func f) [] []) (.func (.func f) #[] #[])
  simp [Abs.Rel,Abs.RelL]
theorem b6A{ops:Array Oper}{ef so:List Nat}{i:Nat}{K:Sf->Hp->Prop}{σ:Sf}{H:Hp}{m:Mu}{w:World}{a:Act}(hd:a2l N ops.toList=true)(hs:a7q E N m w σ H a)(h:mOp E ops ef so i K σ H)
  {K':Act->World->Prop} {Q':Exit->Act->World->Prop} (hK:∀m' w' σ' H' a',Ext m w m' w'->a7q E N m' w' σ' H' a'->K σ' H'->K' a' w'):wpOp E.P ops Q' i K' a w:=by
 unfold mOp at h
 unfold wpOp
 cases ho:ops[i]? with
 | none=>simp only [ho] at h
 | some o =>
  simp only [ho] at h ⊢
  have hd1:∀k,o.dst=some k->k<N:=fun k hk=>by
   have h1:=List.all_eq_true.1 hd o (Array.mem_toList_iff.2 (Array.mem_of_getElem? ho))
   rw [hk] at h1;simpa using h1
  have fin:∀{K2:AV->Hp->Prop},a0z E o (evF E (a4w o) σ) H K2->(∀r H',K2 r H'->K (upd o.dst r σ) H')->o.wp E.P a w K' Q':=fun hst hk=>by
   refine Oper.wp_mono ?_ (hst m w a hs.ok (c1x hs _) hs.sim hs.defers Q')
   rintro a' w' ⟨v',rfl,m',r,H',h1,h2,h3,h4⟩
   exact hK m' w' _ _ _ h1 (hs.put h1 hd1 h2 h3) (hk _ _ h4)
  cases hw:a2a ops o σ with
  | none=>rw [hw] at h;exact h.elim
  | some b =>
   rw [hw] at h
   rw [b4U hs hw]
   cases b with
   | false =>
    simp only [Bool.false_eq_true,if_false]
    exact hK m w _ _ _ (Ext.refl m w) (hs.put (Ext.refl m w) hd1 a3y hs.sim) h
   | true =>
    simp only [if_true]
    left
    simp only at h
    split at h
    ·exact fin h fun _ _ h=>h
    split at h
    ·obtain ⟨v,h1,h2⟩:=h;exact fin (h1 H) fun r H' ⟨e1,e2⟩=>by subst e1;subst e2;exact h2
    ·obtain ⟨v,h1,h2⟩:=h;exact fin h1 fun r H' ⟨e1,e2⟩=>by subst e1;subst e2;exact h2
theorem a6b{ops:Array Oper}{ef so:List Nat}{R:Sf->Hp->Prop}{Q':Exit->Act->World->Prop}(hd:a2l N ops.toList=true){m0:Mu}{w0:World}
  (hR:∀m w σ H a,Ext m0 w0 m w->a7q E N m w σ H a->R σ H->Q' .normal a w):∀(fuel:Nat) (listed:Array Bool) (σ:Sf) (H:Hp) (m:Mu) (w:World) (a:Act),Ext m0 w0 m w->a7q E N m w σ H a ->
  anyM E ops ef so R fuel listed σ H->wpAny E.P .any ops Q' fuel listed a w
 | 0,_,_,_,m,w,a,he,hs,h=>⟨h.1,hR m w _ _ a he hs h.2⟩
 | fuel+1,_,_,_,m,w,a,he,hs,h=>⟨fun h0=>hR m w _ _ a he hs (h.1 h0),fun i hi =>
   b6A hd hs (h.2 i hi) fun m' w' σ' H' a' he' hs' hk=>a6b hd hR fuel _ σ' H' m' w' a' (he.trans he') hs' hk⟩
/-! Which operation waits for which -/
def a3w(ops:Array Oper):Nat->Nat->Nat->Bool
 | 0,_,_=>false
 | f+1,i,x=>match ops[i]? with
  | some o=>o.after.any fun e=>Region.binds .any e&&(e.on == x || a3w ops f e.on x)
  | none=>false
def Down(ops:Array Oper)(listed:Array Bool):Prop:=∀p o,ops[p]?=some o->listed.getD p false=true->∀e∈o.after,Region.binds .any e=true->listed.getD e.on false=true
theorem a4q{ops:Array Oper}{listed:Array Bool}(hd:Down ops listed):∀(f i x:Nat) (o:Oper),ops[i]?=some o->(∀e∈o.after,Region.binds .any e=true->listed.getD e.on false=true)->a3w ops f i x=true->listed.getD x false=true
 | 0,_,_,_,_,_,h=>by simp [a3w] at h
 | f+1,i,x,o,ho,ha,h=>by
  simp only [a3w,ho] at h
  obtain ⟨e,he,hb⟩:=Array.any_eq_true'.1 h
  simp only [Bool.and_eq_true,Bool.or_eq_true,beq_iff_eq] at hb
  have hl:=ha e he hb.1
  rcases hb.2 with h2|h2
  ·rw [<- h2];exact hl
  cases hq:ops[e.on]? with
  | none =>
   cases f with
   | zero=>simp [a3w] at h2
   | succ f=>simp [a3w,hq] at h2
  | some o2=>exact a4q hd f e.on x o2 hq (hd _ _ hq hl) h2
theorem a7a{ops:Array Oper}{listed:Array Bool}{i:Nat}(hd:Down ops listed)(hi:i∈Region.ready .any ops listed):Down ops (listed.setIfInBounds i true):=by
 intro p o ho hl e he hb
 obtain ⟨_,oi,hoi,hall⟩:=mem_ready.1 hi
 by_cases hpi:p=i
 ·subst hpi
  rw [ho] at hoi;cases hoi
  exact getD_set_true (hall e he hb)
 rw [getD_set_ne false (Ne.symm hpi)] at hl
 exact getD_set_true (hd p o ho hl e he hb)
def a4g(E:Env)(ops:Array Oper)(so:List Nat)(i:Nat)(o:Oper)(v:AV)(σ:Sf)(H:Hp):Prop :=
 (a2a ops o σ=some true/\(if so.contains i then ∀H,a0z E o (evF E (a4w o) σ) H (fun r H'=>r=v/\H'=H) else a0z E o (evF E (a4w o) σ) H (fun r H'=>r=v/\H'=H)))\/(a2a ops o σ=some false/\v=.tup [])
theorem a4g.mOp{ops:Array Oper}{ef so:List Nat}{i:Nat}{o:Oper}{v:AV}{σ:Sf}{H:Hp}(hi:ops[i]?=some o)(hne:ef.contains i=false)(hy:a4g E ops so i o v σ H){K:Sf->Hp->Prop}(h:K (upd o.dst v σ) H) :
  mOp E ops ef so i K σ H:=by
 unfold Abs.mOp
 simp only [hi]
 rcases hy with ⟨hw,hv⟩|⟨hw,rfl⟩
 ·simp only [hw,hne,Bool.false_eq_true,if_false]
  split
  ·rename_i hs;rw [if_pos hs] at hv;exact ⟨v,hv,h⟩
  ·rename_i hs;rw [if_neg hs] at hv;exact ⟨v,hv,h⟩
 ·simp only [hw];exact h
theorem b6z{ops:Array Oper}{ef so:List Nat}{i j:Nat}{oi oj:Oper}{v:AV}(hj:ops[j]?=some oj)(hap:oi.apart ops oj=true)(hcond:ef.contains j=true->so.contains i=true){K:Sf->Hp->Prop}{σ:Sf}{H:Hp}
  (hy:a4g E ops so i oi v σ H) (h:mOp E ops ef so j K (upd oi.dst v σ) H):mOp E ops ef so j (fun σ' H'=>a4g E ops so i oi v σ' H'/\K (upd oi.dst v σ') H') σ H:=by
 obtain ⟨h1,h2,h3⟩:=Oper.apart_spec hap
 have keep:∀u,∀H',(so.contains i=true\/H'=H)->a4g E ops so i oi v (upd oj.dst u σ) H':=fun u H' hH=>by
  unfold a4g at *
  rw [a8i h3,b5M (E:=E) h3]
  rcases hy with ⟨hw,hv⟩|hy
  ·refine .inl ⟨hw,?_⟩
   split
   ·rename_i hs;rw [if_pos hs] at hv;exact hv
   rename_i hs
   rw [if_neg hs] at hv
   rcases hH with hH|rfl
   ·exact absurd hH hs
   ·exact hv
  ·exact .inr hy
 have comm:∀u,upd oj.dst u (upd oi.dst v σ)=upd oi.dst v (upd oj.dst u σ):=fun u=>(b3Z h2).symm
 unfold mOp at *
 simp only [hj] at *
 rw [a8i h1,b5M (E:=E) h1] at h
 split
 ·rename_i hw;rw [hw] at h;exact h
 ·rename_i hw;rw [hw] at h;exact ⟨keep _ H (.inr rfl),by rw [<- comm];exact h⟩
 rename_i hw
 rw [hw] at h
 simp only at h
 split
 ·rename_i he
  rw [if_pos he] at h
  exact a1e h fun r H' hk=>⟨keep _ H' (.inl (hcond he)),by rw [<- comm];exact hk⟩
 rename_i he
 rw [if_neg he] at h
 split
 ·rename_i hs;rw [if_pos hs] at h;obtain ⟨u,h4,h5⟩:=h;exact ⟨u,h4,keep _ H (.inr rfl),by rw [<- comm];exact h5⟩
 ·rename_i hs;rw [if_neg hs] at h;obtain ⟨u,h4,h5⟩:=h;exact ⟨u,h4,keep _ H (.inr rfl),by rw [<- comm];exact h5⟩
theorem a6a{ops:Array Oper}{ef so:List Nat}{R:Sf->Hp->Prop}{i:Nat}{oi:Oper}{v:AV}(hi:ops[i]?=some oi)(hne:ef.contains i=false)
  (hwait:so.contains i=true\/∀j,ef.contains j=true->j<ops.size->a3w ops ops.size j i=true) :
  ∀(fuel:Nat) (listed:Array Bool) (σ:Sf) (H:Hp),Down ops listed ->
   (∀j oj,ops[j]?=some oj->j≠i->listed.getD j true=false->(∀e∈oj.after,Region.binds .any e=true->e.on≠i)->oi.apart ops oj=true) ->
   i∈Region.ready .any ops listed->a4g E ops so i oi v σ H ->
   anyM E ops ef so R fuel (listed.setIfInBounds i true) (upd oi.dst v σ) H->anyM E ops ef so R (fuel+1) listed σ H:=by
 intro fuel
 induction fuel with
 | zero =>
  intro listed σ H hdn _ hr hy h
  refine ⟨fun h0=>(by rw [h0] at hr;cases hr),fun j hj=>?_⟩
  by_cases hji:j=i
  ·subst hji;exact hy.mOp hi hne h
  ·have:=ready_mono hj hji
   rw [h.1] at this
   cases this
 | succ fuel ih =>
  intro listed σ H hdn hfree hr hy h
  refine ⟨fun h0=>(by rw [h0] at hr;cases hr),fun j hj=>?_⟩
  by_cases hji:j=i
  ·subst hji;exact hy.mOp hi hne h
  have h1:=h.2 j (ready_mono hj hji)
  obtain ⟨hjun,oj,hoj,hall⟩:=mem_ready.1 hj
  have hiun:=(mem_ready.1 hr).1
  have hnl:listed.getD i false=false:=by
   rcases Nat.lt_or_ge i listed.size with h'|h'
   ·simpa [h'] using hiun
   ·simp [Array.getElem?_eq_none h']
  have hnot:∀e∈oj.after,Region.binds .any e=true->e.on≠i:=fun e he hb heq=>by
   have h1:=hall e he hb
   rw [heq,hnl] at h1;cases h1
  have hcond:ef.contains j=true->so.contains i=true:=fun he=>by
   rcases hwait with hw|hw
   ·exact hw
   ·have:=a4q hdn _ j i oj hoj hall (hw j he (Array.getElem?_eq_some_iff.1 hoj).1)
    rw [hnl] at this;cases this
  have h2:=b6z hoj (hfree j oj hoj hji hjun hnot) hcond hy h1
  have hfree':∀k ok,ops[k]?=some ok->k≠i->(listed.setIfInBounds j true).getD k true=false ->
    (∀e∈ok.after,Region.binds .any e=true->e.on≠i)->oi.apart ops ok=true:=fun k ok hk hki hun hno=>by
   refine hfree k ok hk hki ?_ hno
   by_cases hjk:j=k
   ·subst hjk;exact hjun
   ·rw [getD_set_ne true hjk] at hun;exact hun
  refine b3o (fun σ' H' h3=>ih (listed.setIfInBounds j true) σ' H' (a7a hdn hj) hfree' (ready_mono hr (Ne.symm hji)) h3.1 ?_) h2
  rw [Array.setIfInBounds_comm _ _ hji]
  exact h3.2
/-! The walk in an order of one's own -/
def b6M(ops:Array Oper)(ef so:List Nat):List Nat->Array Bool->Bool
 | [],listed=>(Region.ready .any ops listed).isEmpty
 | i::rest,listed =>
  (if ef.contains i then Region.ready .any ops listed == [i]
   else (Region.ready .any ops listed).contains i&&Region.free .any ops listed i&&(so.contains i || ef.all fun j=>!(Nat.blt j ops.size) || a3w ops ops.size j i)) &&
  b6M ops ef so rest (listed.setIfInBounds i true)
def awM(E:Env)(ops:Array Oper)(ef so:List Nat)(K:St->Prop):List Nat->St->Prop
 | [],s=>∃sl',get sl'=get s.sl/\K ⟨sl',s.hp⟩
 | i::rest,s =>
  match ops[i]? with
  | none=>False
  | some o =>
   match a0H ops o s.sl with
   | none=>False
   | some false=>awM E ops ef so K rest ⟨put o.dst (.tup []) s.sl,s.hp⟩
   | some true =>
    if ef.contains i then a0z E o (evF E (a4w o) (get s.sl)) s.hp (fun r H'=>awM E ops ef so K rest ⟨put o.dst r s.sl,H'⟩)
    else if so.contains i then ∃v,(∀H,a0z E o (evF E (a4w o) (get s.sl)) H (fun r H'=>r=v/\H'=H))/\awM E ops ef so K rest ⟨put o.dst v s.sl,s.hp⟩
    else ∃v,a0z E o (evF E (a4w o) (get s.sl)) s.hp (fun r H'=>r=v/\H'=s.hp)/\awM E ops ef so K rest ⟨put o.dst v s.sl,s.hp⟩
def c3A(K:St->Prop)(σ:Sf)(H:Hp):Prop:=∃sl,get sl=σ/\K ⟨sl,H⟩
theorem b2C{ops:Array Oper}{ef so:List Nat}{K:St->Prop}:∀(ord:List Nat) (listed:Array Bool) (s:St),b6M ops ef so ord listed=true->Down ops listed->awM E ops ef so K ord s ->
  anyM E ops ef so (c3A K) ord.length listed (get s.sl) s.hp
 | [],listed,s,ho,_,h=>⟨by simpa [b6M] using ho,h⟩
 | i::rest,listed,s,ho,hdn,h=>by
  simp only [b6M,Bool.and_eq_true] at ho
  obtain ⟨hc,ho⟩:=ho
  simp only [awM] at h
  cases hi:ops[i]? with
  | none=>rw [hi] at h;exact h.elim
  | some o =>
   rw [hi] at h
   simp only at h
   have next:∀(s':St),awM E ops ef so K rest s'->i∈Region.ready .any ops listed->anyM E ops ef so (c3A K) rest.length (listed.setIfInBounds i true) (get s'.sl) s'.hp:=fun s' h hr =>
    b2C rest _ s' ho (a7a hdn hr) h
   by_cases he:ef.contains i=true
   ·rw [if_pos he] at hc
    have hr:Region.ready .any ops listed=[i]:=by simpa using hc
    have hir:i∈Region.ready .any ops listed:=by rw [hr];simp
    refine ⟨fun h0=>(by rw [hr] at h0;cases h0),fun j hj=>?_⟩
    rw [hr] at hj
    simp only [List.mem_singleton] at hj
    subst hj
    unfold mOp
    simp only [hi]
    rw [a1G]
    cases hw:a0H ops o s.sl with
    | none=>rw [hw] at h;exact h.elim
    | some b =>
     rw [hw] at h
     cases b with
     | false =>
      have:=next _ h hir
      rw [a2t] at this
      exact this
     | true =>
      simp only [he,if_true] at h ⊢
      exact a1e h fun r H' hk=>by
       have:=next _ hk hir
       rw [a2t] at this
       exact this
   have he':ef.contains i=false:=by simpa using he
   rw [if_neg he] at hc
   simp only [Bool.and_eq_true,Bool.or_eq_true] at hc
   obtain ⟨⟨h1,h2⟩,h3⟩:=hc
   have hir:i∈Region.ready .any ops listed:=by simpa using h1
   have hwait:so.contains i=true\/∀j,ef.contains j=true->j<ops.size->a3w ops ops.size j i=true:=by
    rcases h3 with h3|h3
    ·exact .inl h3
    refine .inr fun j hj hlt=>?_
    have:=List.all_eq_true.1 h3 j (by simpa using hj)
    have hb:Nat.blt j ops.size=true:=by simpa using hlt
    simpa [hb] using this
   cases hw:a0H ops o s.sl with
   | none=>rw [hw] at h;exact h.elim
   | some b =>
    rw [hw] at h
    cases b with
    | false =>
     have:=next _ h hir
     rw [a2t] at this
     exact a6a hi he' hwait _ listed _ _ hdn (Region.free_spec hi h2) hir (.inr ⟨by rw [a1G];exact hw,rfl⟩) this
    | true =>
     simp only [he',Bool.false_eq_true,if_false] at h
     split at h
     ·rename_i hs
      obtain ⟨v,h4,h5⟩:=h
      have:=next _ h5 hir
      rw [a2t] at this
      exact a6a hi he' hwait _ listed _ _ hdn (Region.free_spec hi h2) hir (.inl ⟨by rw [a1G];exact hw,by rw [if_pos hs];exact h4⟩) this
     rename_i hs
     obtain ⟨v,h4,h5⟩:=h
     have:=next _ h5 hir
     rw [a2t] at this
     exact a6a hi he' hwait _ listed _ _ hdn (Region.free_spec hi h2) hir (.inl ⟨by rw [a1G];exact hw,by rw [if_neg hs];exact h4⟩) this
theorem a7t{id:Nat}{l:List Oper}{ef so ord:List Nat}(hd:a2l N l=true)(hord:b6M l.toArray ef so ord (Array.replicate l.length false)=true)(hlen:Nat.beq ord.length l.length=true)
  (h:awM E l.toArray ef so (Q .normal) ord s):AWp E N n0 (.region id l.toArray true) Q s:=by
 intro m0 w0 _ m w a he hs
 have hdn:Down l.toArray (Array.replicate l.length false):=fun p o _ hl=>by
  rw [Array.getD_eq_getD_getElem?,Array.getElem?_replicate] at hl
  split at hl<;>simp at hl
 have h1:=b2C ord _ s hord hdn h
 rw [Nat.eq_of_beq_eq_true hlen] at h1
 have hsF:a7q E N m { w with drawn:=w.drawn+1 } (get s.sl) s.hp a:=by
  have e:=Ext.drew m w
  exact ⟨hs.ok,fun k=>(hs.slots k).ext e,hs.size,hs.defers,hs.sim.drew,fun g=>(hs.glob g).ext e⟩
 refine wp_region_any hs.ok.1 ?_
 have h2:=a6b (Q':=b8C E N m0 w0 Q) (m0:=m0) (w0:=w0) (by simpa using hd) (fun m w σ H a he hs hR=>by
  obtain ⟨sl,rfl,hq⟩:=hR
  exact ⟨m,⟨sl,H⟩,he,⟨hs.ok,hs.slots,hs.size,hs.defers,hs.sim,hs.glob⟩,hq⟩) _ _ _ _ _ _ _ (he.trans (Ext.drew m w)) hsF h1
 simpa using h2
end
end Go.Abs
namespace Go.Abs
def nn:Nat->Option Nat
 | 0=>some 0
 | n+1=>match nn n with
  | some k=>some (k+1)
  | none=>none
def ns:AV->Option AV
 | .any=>some .any
 | .int k n=>some (.int k n)
 | .bool b=>some (.bool b)
 | .str s=>some (.str s)
 | .nilp=>some .nilp
 | .nils=>some .nils
 | .nilm=>some .nilm
 | .nilf=>some .nilf
 | .nili=>some .nili
 | .fp cs=>some (.fp cs)
 | .ptr id off=>match nn id,nn off with
  | some id,some off=>some (.ptr id off)
  | _,_=>none
 | .pe id i off=>match nn id with
  | some id=>some (.pe id i off)
  | _=>none
 | .sl k es=>some (.sl k es)
 | .own id lo n=>match nn id with
  | some id=>some (.own id lo n)
  | none=>none
 | .mp id=>match nn id with
  | some id=>some (.mp id)
  | none=>none
 | .agg cs=>some (.agg cs)
 | .tup cs=>some (.tup cs)
 | .clo f a c=>some (.clo f a c)
 | .ifc t x=>some (.ifc t x)
 | .gp k zs=>some (.gp k zs)
def nl:List AV->Option (List AV)
 | []=>some []
 | x::xs=>match ns x,nl xs with
  | some y,some ys=>some (y::ys)
  | _,_=>none
def nv:AV->Option AV
 | .any=>some .any
 | .int k n=>some (.int k n)
 | .bool b=>some (.bool b)
 | .str s=>some (.str s)
 | .nilp=>some .nilp
 | .nils=>some .nils
 | .nilm=>some .nilm
 | .nilf=>some .nilf
 | .nili=>some .nili
 | .fp cs=>match nl cs with
  | some cs=>some (.fp cs)
  | none=>none
 | .ptr id off=>match nn id,nn off with
  | some id,some off=>some (.ptr id off)
  | _,_=>none
 | .pe id i off=>match nn id,nn off with
  | some id,some off=>some (.pe id i off)
  | _,_=>none
 | .sl k es=>some (.sl k es)
 | .own id lo n=>match nn id with
  | some id=>some (.own id lo n)
  | none=>none
 | .mp id=>match nn id with
  | some id=>some (.mp id)
  | none=>none
 | .agg cs=>match nl cs with
  | some cs=>some (.agg cs)
  | none=>none
 | .tup cs=>match nl cs with
  | some cs=>some (.tup cs)
  | none=>none
 | .clo f a c=>some (.clo f a c)
 | .ifc t x=>some (.ifc t x)
 | .gp k zs=>some (.gp k zs)
def no:Option AO->Option (Option AO)
 | none=>some none
 | some (.cells cs e)=>match nl cs with
  | some cs=>some (some (.cells cs e))
  | none=>none
 | some (.arr es e)=>some (some (.arr es e))
 | some (.map es)=>some (some (.map es))
 | some (.itr s p)=>some (some (.itr s p))
def nh:Hp->Option Hp
 | []=>some []
 | x::xs=>match no x,nh xs with
  | some y,some ys=>some (y::ys)
  | _,_=>none
theorem b0x:∀{n k:Nat},nn n=some k->n=k
 | 0,_,h=>by simp [nn] at h;exact h
 | n+1,k,h=>by
  simp only [nn] at h
  split at h
  ·rename_i j hj;cases h;rw [b0x hj]
  ·cases h
theorem c5Q{x y:AV}(h:ns x=some y):x=y:=by
 unfold ns at h
 split at h
 all_goals first
  | (cases h;rfl)
  | (split at h;(· rename_i hj;cases h;rw [b0x hj]);cases h)
  | (split at h;(· rename_i hj hk;cases h;rw [b0x hj,b0x hk]);cases h)
theorem c2e:∀{x y:List AV},nl x=some y->x=y
 | [],_,h=>by simp [nl] at h;exact h.symm
 | x::xs,y,h=>by
  simp only [nl] at h
  split at h
  ·rename_i j k hj hk;cases h;rw [c5Q hj,c2e hk]
  ·cases h
theorem a6q{x y:AV}(h:nv x=some y):x=y:=by
 unfold nv at h
 split at h
 all_goals first
  | (cases h;rfl)
  | (split at h;(· rename_i hj;cases h;rw [c2e hj]);cases h)
  | (split at h;(· rename_i hj;cases h;rw [b0x hj]);cases h)
  | (split at h;(· rename_i hj hk;cases h;rw [b0x hj,b0x hk]);cases h)
theorem c5P{x y:Option AO}(h:no x=some y):x=y:=by
 unfold no at h
 split at h
 ·cases h;rfl
 ·split at h
  ·rename_i hj;cases h;rw [c2e hj]
  ·cases h
 ·cases h;rfl
 ·cases h;rfl
 ·cases h;rfl
theorem b1I:∀{x y:Hp},nh x=some y->x=y
 | [],_,h=>by simp [nh] at h;exact h.symm
 | x::xs,y,h=>by
  simp only [nh] at h
  split at h
  ·rename_i a b ha hb;cases h;rw [c5P ha,b1I hb]
  ·cases h
section
variable{E:Env}{N n0:Nat}{Q:Exit->St->Prop}{sl:List (Nat × AV)}{hp:Hp}{K:St->Prop}{ops:Array Oper}{rest:List Oper}
variable{op:Op}{ty:TypeId}{pos:String}{after:Array Edge}{g:Option (Nat × Bool)}
def Nx(k:AV->Hp->Prop)(r:AV)(H:Hp):Prop:=∃r2 H2,nv r=some r2/\nh H=some H2/\k r2 H2
theorem nx{k:AV->Hp->Prop}{r r2:AV}{H H2:Hp}(h1:nv r=some r2)(h2:nh H=some H2)(h:k r2 H2):Nx k r H:=⟨r2,H2,h1,h2,h⟩
theorem b1O{k:AV->Hp->Prop}{r:AV}{H:Hp}(h:Nx k r H):k r H:=by
 obtain ⟨r2,H2,h1,h2,h⟩:=h
 rw [a6q h1,b1I h2];exact h
theorem bs{d:Nat}(hw:a0H ops ⟨some d,op,ty,pos,after,g⟩ sl=some true)(h:a0z E ⟨some d,op,ty,pos,after,g⟩ (ev E sl) hp (Nx fun r H'=>a1p E ops rest K ⟨(d,r)::sl,H'⟩)) :
  a1p E ops (⟨some d,op,ty,pos,after,g⟩::rest) K ⟨sl,hp⟩ :=
 a1U hw (a1e h fun _ _ h=>b1O h)
theorem bs0(hw:a0H ops ⟨none,op,ty,pos,after,g⟩ sl=some true)(h:a0z E ⟨none,op,ty,pos,after,g⟩ (ev E sl) hp (Nx fun _ H'=>a1p E ops rest K ⟨sl,H'⟩)) :
  a1p E ops (⟨none,op,ty,pos,after,g⟩::rest) K ⟨sl,hp⟩ :=
 a1U hw (a1e h fun _ _ h=>b1O (k:=fun _ H'=>a1p E ops rest K ⟨sl,H'⟩) h)
theorem c3G{d:Nat}(hw:a0H ops ⟨some d,op,ty,pos,after,g⟩ sl=some false)(h:a1p E ops rest K ⟨(d,.tup [])::sl,hp⟩) :
  a1p E ops (⟨some d,op,ty,pos,after,g⟩::rest) K ⟨sl,hp⟩:=a5n hw h
theorem c0A{o:Oper}{d:Nat}{p:Prop}[Decidable p](hg:b4u ops o=some d)(hb:get sl d=.bool (decide p))
  (ht:p->a1p E ops (o::rest) K ⟨(d,.bool true)::sl,hp⟩) (hf:¬ p->a1p E ops (o::rest) K ⟨(d,.bool false)::sl,hp⟩):a1p E ops (o::rest) K ⟨sl,hp⟩ :=
 a8k hg hb ht hf
theorem b1m{o:Oper}{d:Nat}{b:Bool}(_hg:b4u ops o=some d)(hb:get sl d=.bool b)
  (ht:b=true->a1p E ops (o::rest) K ⟨(d,.bool true)::sl,hp⟩) (hf:b=false->a1p E ops (o::rest) K ⟨(d,.bool false)::sl,hp⟩):a1p E ops (o::rest) K ⟨sl,hp⟩ :=
 a8q hb ht hf
end
def Env.wX(E:Env)(X:Nat->Prop):Env:={ P:=E.P,ti:=E.ti,n:=E.n,G:=E.G,X:=X }
theorem a0f{E:Env}{f:FuncId}{args:List AV}{r:AV}(h:∀X,a0b (E.wX X) f args [] (fun r' H'=>r'=r/\H'=[]))(ha:a0e 0 args)(H:Hp):a0b E f args H (fun r' H'=>r'=r/\H'=H):=by
 refine ⟨(h E.X).1,fun m w vs hok hglob hargs hsim=>?_⟩
 have hc0:∀i,i<0->(fun _=>none:Nat->Option Nat) i=some i:=fun i h=>absurd h (Nat.not_lt_zero _)
 have hc:Cmp (fun _=>none) E.cx (E.wX fun b=>E.X b\/.blk b∈m).cx m []:=⟨rfl,fun _ _ h=>absurd h (by simp),fun b hb=>hb.elim (fun h=>absurd h (by simp)) (fun h=>h.elim .inr .inl)⟩
 have hsim0:(E.wX fun b=>E.X b\/.blk b∈m).Sim [] w []:=⟨rfl,fun _ _ h=>by simp at h,fun _ h=>by simp at h,fun _ _ _ h=>by simp at h,fun b hb=>hb.elim (hsim.xlt b) (fun h=>hsim.lt h),fun b hb=>absurd hb (by simp)⟩
 refine ((h fun b=>E.X b\/.blk b∈m).2 [] w vs hok (fun g=>Rel.cmp hc hc0 _ (hok.2.2 g) (hglob g)) (RelL.cmp hc hc0 _ ha hargs) hsim0).mono ?_
 rintro e w' ⟨v,m',r',H',he,hext,hr,hs',rfl,rfl⟩
 have hm':m'=[]:=List.eq_nil_of_length_eq_zero (by rw [hs'.len];rfl)
 subst hm'
 have hext2:Ext m w m w':=⟨hext.os,hext.tape,hext.output,hext.size,fun b hb _=>hext.keep b hb (by simp),fun _ _ h=>h,Nat.le_refl _,fun _ _ _ _ h=>h,hext.shape⟩
 have hc2:Cmp (fun _=>none) (E.wX fun b=>E.X b\/.blk b∈m).cx E.cx [] m:=⟨rfl,fun _ _ h=>absurd h (by simp),fun b hb=>.inr (hb.elim .inr .inl)⟩
 exact ⟨v,m,r',H,he,hext2,Rel.cmp hc2 hc0 _ (by have:=Rel.ids _ hr;simpa using this) hr,hsim.of_ext hext2 fun b hb=>hext.keep b (hsim.lt hb) (by simp),rfl,rfl⟩
end Go.Abs
namespace Go.Abs
theorem a2j{K:St->Prop}{Q:Exit->St->Prop}{s:St}(h:K s):a5W K Q .normal s:=h
theorem c1g{K:St->Prop}{Q:Exit->St->Prop}{i:Nat}{s:St}(h:Q (.exit i) s):a5W K Q (.exit i) s:=h
theorem c3F{Q:Exit->St->Prop}{i:Nat}{s:St}(h:Q .normal s):a4M i Q (.exit i) s:=by
 simpa [a4M] using h
theorem a4r{f:Nat->Option Nat}{v v':AO}(h:v=v')(hi:a2b 0 v'):b5i f v v':=by
 subst h;exact a0A 0 (fun i h=>absurd h (Nat.not_lt_zero i)) hi
theorem b1Y{f:Nat->Option Nat}{v v':AV}(h:v=v')(hi:a0d 0 v):Ren f v v':=by
 subst h;exact a7V 0 (fun i h=>absurd h (Nat.not_lt_zero i)) hi
theorem a0l{P:Nat × AV->Prop}:∀p∈([]:List (Nat × AV)),P p:=fun _ h=>absurd h (by simp)
theorem a0a{P:Nat × AV->Prop}{q:Nat × AV}{r:List (Nat × AV)}(h:P q)(t:∀p∈r,P p):∀p∈q::r,P p:=fun p hp=>by
 rcases List.mem_cons.1 hp with e|e
 ·rw [e];exact h
 ·exact t p e
def b8E(H:Hp)(f:Nat->Option Nat)(ids:List Nat)(os:List AO):Prop :=
 ∀(j i:Nat) (o':AO),ids[j]?=some i->os[j]?=some o'->∃o,H[i]?=some (some o)/\b5i f o o'
theorem a0T{H:Hp}{f:Nat->Option Nat}:b8E H f [] []:=fun _ _ _ h=>absurd h (by simp)
theorem a0E{H:Hp}{f:Nat->Option Nat}{i:Nat}{ids:List Nat}{o o':AO}{os:List AO}(h1:H[i]?=some (some o))(h2:b5i f o o')(t:b8E H f ids os):b8E H f (i::ids) (o'::os):=fun j i2 o2 hi ho=>by
 cases j with
 | zero=>simp at hi ho;subst hi ho;exact ⟨o,h1,h2⟩
 | succ j=>exact t j i2 o2 (by simpa using hi) (by simpa using ho)
theorem b3g{E:Env}{N:Nat}{sl:List (Nat × AV)}{hp:Hp}(ids:List Nat){sl':List (Nat × AV)}{os:List AO}(hnd:ids.Nodup)
  (hlen:os.length=ids.length) (hsl:∀p∈sl',Ren (gcF 0 ids) (get sl p.1) p.2) (hos:b8E hp (gcF 0 ids) ids os) :
  Imp E N 0 ⟨sl,hp⟩ ⟨sl',os.map some⟩:=by
 have:=b3f (E:=E) (N:=N) (n0:=0) (s:=⟨sl,hp⟩) 0 ids sl' os (Nat.le_refl _) (Nat.zero_le _) hnd (fun _ _=>Nat.zero_le _) (fun _ _ h=>by simp at h) hsl hlen hos
 simpa using this
theorem a3p{id k n:Nat}{es:List AV}(h:n=es.length):frz id k es (.own id 0 n)=.sl k es:=by
 subst h;simp [frz]
theorem a0M{H:Hp}{e:TypeId}{id n:Nat}{es:List AV}(h:H[id]?=some (some (.arr es e)))(hn:n=es.length):b8y H e (.own id 0 n)=some (some id,es):=by
 simp only [b8y,h,hn,true_and,if_true]
def n2:List AV->Option (List AV)
 | []=>some []
 | x::xs=>match nv x,n2 xs with
  | some y,some ys=>some (y::ys)
  | _,_=>none
theorem c2d:∀{x y:List AV},n2 x=some y->x=y
 | [],_,h=>by simp [n2] at h;exact h.symm
 | x::xs,y,h=>by
  simp only [n2] at h
  split at h
  ·rename_i a b ha hb;cases h;rw [a6q ha,c2d hb]
  ·cases h
theorem b8b{E:Env}{H:Hp}{K:AV->Hp->Prop}{ρ:Operand->AV}{d:Option Nat}{ty:TypeId}{pos:String}{after:Array Edge}{g:Option (Nat × Bool)}
  {t e:TypeId} {len k:Nat} {parts:Array (Nat × Operand)} {z cs es:List AV} (ht:Nat.blt t E.n=true) (hk:(E.ti t).k=.sl e) (he:Nat.blt e E.n=true) (hz:(E.ti e).z=some z)
  (hzl:Nat.beq z.length (E.ti e).sz=true) (hz0:Nat.blt 0 (E.ti e).sz=true) (hlim:Nat.ble (len*(E.ti e).sz) 16777216=true) (hag:(E.ti e).k.agg=true\/Nat.beq (E.ti e).sz 1=true)
  (hf:a4j (a5k (E.ti e).sz) ρ parts.toList (rep z len)=some cs) (hone:(E.ti e).k.agg=true\/cs.all a5m=true)
  (hsz:nn (E.ti e).sz=some k) (hav:n2 (a3Z (E.ti e).k.agg (E.ti e).sz len cs)=some es) (h:K (.sl k es) H) :
  a0z E ⟨d,.buildSlice t len parts,ty,pos,after,g⟩ ρ H K :=
 a9K ht hk he hz hzl hz0 hlim hag hf hone (by rw [c2d hav,b0x hsz];exact h)
theorem b7Z{E:Env}{H:Hp}{K:AV->Hp->Prop}{ρ:Operand->AV}{d:Option Nat}{ty:TypeId}{pos:String}{after:Array Edge}{g:Option (Nat × Bool)}
  {t:TypeId} {fs:List (Nat × TypeId)} {parts:Array (Nat × Operand)} {z out es:List AV} (ht:Nat.blt t E.n=true) (hk:(E.ti t).k=.struct fs) (hz:(E.ti t).z=some z)
  (hall:(fs.all fun p=>Nat.blt p.2 E.n)=true) (hf:a4j (placesOf E fs) ρ parts.toList z=some out) (he:n2 out=some es) (h:K (.agg es) H):a0z E ⟨d,.build t parts,ty,pos,after,g⟩ ρ H K :=
 c0e ht hk hz hall hf (by rw [c2d he];exact h)
theorem a9j{α:Type}{f:α->AV}(h:∀x,a0d 0 (f x)):∀l:List α,a0e 0 (l.map f)
 | []=>trivial
 | x::l=>⟨h x,a9j h l⟩
end Go.Abs
namespace Go.Abs
section
variable{E:Env}{ops:Array Oper}{ef so:List Nat}{K:St->Prop}{i:Nat}{rest:List Nat}{sl:List (Nat × AV)}{hp:Hp}
variable{op:Op}{ty:TypeId}{pos:String}{after:Array Edge}{g:Option (Nat × Bool)}{d:Nat}
theorem b0n{s:St}(h:K s):awM E ops ef so K [] s:=⟨s.sl,rfl,h⟩
theorem a2S:∀{ord:List Nat} {sl sl':List (Nat × AV)} {hp:Hp},get sl=get sl'->awM E ops ef so K ord ⟨sl',hp⟩->awM E ops ef so K ord ⟨sl,hp⟩
 | [],_,_,_,hs,⟨sl2,h1,h2⟩=>⟨sl2,h1.trans hs.symm,h2⟩
 | i::rest,sl,sl',hp,hs,h=>by
  have hp2:∀d r,get (put d r sl)=get (put d r sl'):=fun d r=>by funext k;simp [a9g,hs]
  simp only [awM] at h ⊢
  split
  ·rename_i he;rw [he] at h;exact h.elim
  rename_i o he
  rw [he] at h
  have hwa:a0H ops o sl=a0H ops o sl':=by unfold a0H;split<;>simp [hs]
  simp only [hwa,hs] at h ⊢
  split
  ·rename_i hw;rw [hw] at h;exact h.elim
  ·rename_i hw;rw [hw] at h;exact a2S (hp2 _ _) h
  rename_i hw
  rw [hw] at h
  simp only at h
  split
  ·rename_i hc;rw [if_pos hc] at h;exact a1e h fun r H' h=>a2S (hp2 _ _) h
  rename_i hc
  rw [if_neg hc] at h
  split
  ·rename_i hc2
   rw [if_pos hc2] at h
   obtain ⟨v,h1,h2⟩:=h
   exact ⟨v,h1,a2S (hp2 _ _) h2⟩
  rename_i hc2
  rw [if_neg hc2] at h
  obtain ⟨v,h1,h2⟩:=h
  exact ⟨v,h1,a2S (hp2 _ _) h2⟩
theorem a7z{o:Oper}{d:Nat}{b:Bool}(_hi:ops[i]?=some o)(_hg:b4u ops o=some d)(hb:get sl d=.bool b)
  (ht:b=true->awM E ops ef so K (i::rest) ⟨(d,.bool true)::sl,hp⟩) (hf:b=false->awM E ops ef so K (i::rest) ⟨(d,.bool false)::sl,hp⟩):awM E ops ef so K (i::rest) ⟨sl,hp⟩:=by
 have key:∀c,b=c->get sl=get ((d,.bool c)::sl):=fun c hc=>by
  funext k
  rw [a0R]
  split
  ·rename_i e;rw [<- e,hb,hc]
  ·rfl
 cases b with
 | true=>exact a2S (key true rfl) (ht rfl)
 | false=>exact a2S (key false rfl) (hf rfl)
theorem b2S{o:Oper}{d:Nat}{p:Prop}[Decidable p](hi:ops[i]?=some o)(hg:b4u ops o=some d)(hb:get sl d=.bool (decide p))
  (ht:p->awM E ops ef so K (i::rest) ⟨(d,.bool true)::sl,hp⟩) (hf:¬ p->awM E ops ef so K (i::rest) ⟨(d,.bool false)::sl,hp⟩):awM E ops ef so K (i::rest) ⟨sl,hp⟩ :=
 a7z hi hg hb (fun h=>ht (of_decide_eq_true h)) (fun h=>hf (of_decide_eq_false h))
theorem a1E(hi:ops[i]?=some ⟨some d,op,ty,pos,after,g⟩)(hw:a0H ops ⟨some d,op,ty,pos,after,g⟩ sl=some true)(he:ef.contains i=true)
  (h:a0z E ⟨some d,op,ty,pos,after,g⟩ (evF E (a4w ⟨some d,op,ty,pos,after,g⟩) (get sl)) hp (Nx fun r H'=>awM E ops ef so K rest ⟨(d,r)::sl,H'⟩)):awM E ops ef so K (i::rest) ⟨sl,hp⟩:=by
 simp only [awM,hi,hw,he,if_true]
 exact a1e h fun _ _ h=>b1O h
theorem ds(hi:ops[i]?=some ⟨some d,op,ty,pos,after,g⟩)(hw:a0H ops ⟨some d,op,ty,pos,after,g⟩ sl=some true)(he:ef.contains i=false)(hs:so.contains i=false)
  {v:AV} (h:a0z E ⟨some d,op,ty,pos,after,g⟩ (evF E (a4w ⟨some d,op,ty,pos,after,g⟩) (get sl)) hp (Nx fun r H'=>r=v/\H'=hp)) (h2:awM E ops ef so K rest ⟨(d,v)::sl,hp⟩):awM E ops ef so K (i::rest) ⟨sl,hp⟩:=by
 simp only [awM,hi,hw,he,hs,Bool.false_eq_true,if_false]
 exact ⟨v,a1e h fun _ _ h=>b1O (k:=fun r H'=>r=v/\H'=hp) h,h2⟩
theorem c5F(hi:ops[i]?=some ⟨some d,op,ty,pos,after,g⟩)(hw:a0H ops ⟨some d,op,ty,pos,after,g⟩ sl=some true)(he:ef.contains i=false)(hs:so.contains i=true)
  {v:AV} (h:∀H,a0z E ⟨some d,op,ty,pos,after,g⟩ (evF E (a4w ⟨some d,op,ty,pos,after,g⟩) (get sl)) H (fun r H'=>r=v/\H'=H)) (h2:awM E ops ef so K rest ⟨(d,v)::sl,hp⟩):awM E ops ef so K (i::rest) ⟨sl,hp⟩:=by
 simp only [awM,hi,hw,he,hs,Bool.false_eq_true,if_false,if_true]
 exact ⟨v,h,h2⟩
end
end Go.Abs
namespace Go.Abs
open Go.Deep
section
variable{E:Env}{H:Type}{enc:TypeId × Value->H}{W:World}
def elA(agg:Bool)(ys:List AV):AV:=if agg then .agg ys else ys.headD .any
def b3b(E:Env)(rec:TypeId->List AV->Prop):List (Nat × TypeId)->List AV->Prop
 | [],xs=>xs=[]
 | p::r,xs=>∃a b,xs=a++b/\rec p.2 a/\b3b E rec r b
def a3E(E:Env):Nat->TypeId->List AV->Prop
 | 0,_,_=>False
 | f+1,t,xs =>
  match (E.ti t).k with
  | .int k=>∃n,xs=[.int k n]/\k.min<=n/\n<=k.max
  | .bool=>∃b,xs=[.bool b]
  | .str=>∃s,xs=[.str s]/\s.length<=maxLen
  | .sl e=>∃es,xs=[.sl (E.ti e).sz es]/\es.length<=maxLen/\∀x∈es,∃ys,x=elA (E.ti e).k.agg ys/\a3E E f e ys
  | .struct fs=>b3b E (a3E E f) fs xs
  | _=>False
def c4n(E:Env):List (Nat × TypeId)->Nat->Nat->Bool
 | [],o,n=>Nat.beq o n
 | p::r,o,n=>Nat.beq p.1 o&&c4n E r (o+(E.ti p.2).sz) n
def a2C(E:Env):Nat->TypeId->Bool
 | 0,_=>false
 | f+1,t=>Nat.blt t E.n &&
  match (E.ti t).k with
  | .int _|.bool|.str=>Nat.beq (E.ti t).sz 1
  | .sl e=>Nat.beq (E.ti t).sz 1&&a2C E f e&&Nat.blt 0 (E.ti e).sz
  | .struct fs=>c4n E fs 0 (E.ti t).sz&&fs.all fun p=>a2C E f p.2
  | _=>false
theorem a6d{t:TypeId}(hok:E.Ok)(ht:Nat.blt t E.n=true):E.P.cellsOf t=(E.ti t).sz:=by
 obtain ⟨i,d,h1,_,h2,_⟩:=a0Q hok ht
 unfold Program.cellsOf
 rw [h1];exact h2
theorem b0t{f:Nat}{cs:List Value}{n:Nat}
  (IH:∀t cs x,a2C E f t=true->DataW.trod enc E.P W 0 (fun _=>true) true n t cs=some x->∃xs,E.RelL [] W xs cs/\a3E E f t xs/\cs.length=(E.ti t).sz) (hok:E.Ok) :
  ∀(F:List Field) (o:Nat),c4n E (F.map fun f=>(f.offset,f.type)) o cs.length=true->((F.map fun f=>(f.offset,f.type)).all fun p=>a2C E f p.2)=true->o<=cs.length ->
   (∀g∈F,∃x,DataW.trod enc E.P W 0 (fun _=>true) true n g.type ((cs.drop g.offset).take (E.P.cellsOf g.type))=some x) ->
   ∃xs,E.RelL [] W xs (cs.drop o)/\b3b E (a3E E f) (F.map fun f=>(f.offset,f.type)) xs
 | [],o,hl,_,_,_=>by
  simp only [List.map_nil,c4n] at hl
  have:=Nat.eq_of_beq_eq_true hl
  subst this
  exact ⟨[],by simp [Abs.RelL],rfl⟩
 | g::F,o,hl,hp,ho,hx=>by
  simp only [List.map_cons,c4n,Bool.and_eq_true] at hl
  simp only [List.map_cons,List.all_cons,Bool.and_eq_true] at hp
  have hgo:g.offset=o:=Nat.eq_of_beq_eq_true hl.1
  obtain ⟨x,h1⟩:=hx g (by simp)
  obtain ⟨a,h2,h3,h4⟩:=IH _ _ _ hp.1 h1
  have hgt:Nat.blt g.type E.n=true:=by
   have:=hp.1
   cases f with
   | zero=>simp [a2C] at this
   | succ f=>simp only [a2C,Bool.and_eq_true] at this;exact this.1
  rw [a6d hok hgt,hgo] at h2 h4
  have hle:o+(E.ti g.type).sz<=cs.length:=by simp at h4;omega
  obtain ⟨b,h5,h6⟩:=b0t IH hok F (o+(E.ti g.type).sz) hl.2 hp.2 hle fun q hq=>hx q (List.mem_cons_of_mem _ hq)
  refine ⟨a++b,?_,a,b,rfl,h3,h6⟩
  have:cs.drop o=(cs.drop o).take (E.ti g.type).sz++cs.drop (o+(E.ti g.type).sz):=by
   rw [<- List.drop_drop,List.take_append_drop]
  rw [this]
  exact RelL.append h2 h5
theorem one_cell{f:Nat}{t:TypeId}{xs:List AV}{cs:List Value}(h:a3E E f t xs)(ha:(E.ti t).k.agg=false)(hr:E.RelL [] W xs cs):∃x v,xs=[x]/\cs=[v]/\E.Rel [] W x v/\v.cells=#[v]:=by
 cases f with
 | zero=>exact h.elim
 | succ f =>
  simp only [a3E] at h
  split at h
  ·obtain ⟨n,rfl,_⟩:=h
   obtain ⟨v,r,rfl,h1,h2⟩:=a0o.1 hr
   rw [a1l] at h2;subst h2
   refine ⟨_,v,rfl,rfl,h1,?_⟩
   simp only [Abs.Rel] at h1;subst h1;rfl
  ·obtain ⟨n,rfl⟩:=h
   obtain ⟨v,r,rfl,h1,h2⟩:=a0o.1 hr
   rw [a1l] at h2;subst h2
   refine ⟨_,v,rfl,rfl,h1,?_⟩
   simp only [Abs.Rel] at h1;subst h1;rfl
  ·obtain ⟨n,rfl,_⟩:=h
   obtain ⟨v,r,rfl,h1,h2⟩:=a0o.1 hr
   rw [a1l] at h2;subst h2
   refine ⟨_,v,rfl,rfl,h1,?_⟩
   simp only [Abs.Rel] at h1;subst h1;rfl
  ·obtain ⟨n,rfl,_⟩:=h
   obtain ⟨v,r,rfl,h1,h2⟩:=a0o.1 hr
   rw [a1l] at h2;subst h2
   refine ⟨_,v,rfl,rfl,h1,?_⟩
   simp only [Abs.Rel] at h1
   obtain ⟨A,c,vs,rfl,_⟩:=h1
   rfl
  ·rename_i hk;rw [hk] at ha;cases ha
  ·exact h.elim
theorem c5G{f:Nat}{t:TypeId}{xs:List AV}{cs:List Value}(h:a3E E f t xs)(hr:E.RelL [] W xs cs):∃u,u.cells.toList=cs/\E.Rel [] W (elA (E.ti t).k.agg xs) u:=by
 cases ha:(E.ti t).k.agg with
 | true=>exact ⟨.agg cs.toArray,rfl,by simp only [elA,if_true,Env.Rel,Abs.Rel];exact ⟨cs,rfl,hr⟩⟩
 | false =>
  obtain ⟨x,v,rfl,rfl,h1,h2⟩:=one_cell h ha hr
  exact ⟨v,by rw [h2],by simpa [elA] using h1⟩
theorem a8C{x:Nat->AV}{v:Nat->Value}:∀(l:List Nat),(∀i∈l,E.Rel [] W (x i) (v i))->E.RelL [] W (l.map x) (l.map v)
 | [],_=>by simp [Abs.RelL]
 | i::l,h=>RelL.cons (h i (by simp)) (a8C l fun j hj=>h j (by simp [hj]))
theorem a9T(hok:E.Ok)(hX:∀b,¬ E.X b):∀(f fuel:Nat) (t:TypeId) (cs:List Value) (x:DataW H × List MemPlace),a2C E f t=true->DataW.trod enc E.P W 0 (fun _=>true) true fuel t cs=some x ->
  ∃xs,E.RelL [] W xs cs/\a3E E f t xs/\cs.length=(E.ti t).sz
 | 0,_,_,_,_,hp,_=>by simp [a2C] at hp
 | f+1,fuel,t,cs,x,hp,h=>by
  simp only [a2C,Bool.and_eq_true] at hp
  obtain ⟨ht,hp⟩:=hp
  cases hk:(E.ti t).k with
  | int k =>
   rw [hk] at hp
   obtain ⟨n,rfl,_,hw⟩:=DataW.trod_int (a5V hok ht hk) h
   simp only [Lit.wf,Bool.and_eq_true,decide_eq_true_eq] at hw
   refine ⟨[.int k n],RelL.cons (by simp [Abs.Rel]) (by simp [Abs.RelL]),?_,(Nat.eq_of_beq_eq_true hp).symm⟩
   simp only [a3E,hk]
   exact ⟨n,rfl,hw⟩
  | bool =>
   rw [hk] at hp
   obtain ⟨b,rfl,_⟩:=DataW.trod_bool (b2u hok ht hk) h
   refine ⟨[.bool b],RelL.cons (by simp [Abs.Rel]) (by simp [Abs.RelL]),?_,(Nat.eq_of_beq_eq_true hp).symm⟩
   simp only [a3E,hk]
   exact ⟨b,rfl⟩
  | str =>
   rw [hk] at hp
   obtain ⟨s,rfl,_,hs⟩:=DataW.trod_string (a8O hok ht hk) h
   refine ⟨[.str s.data.toList],RelL.cons (by simp [Abs.Rel]) (by simp [Abs.RelL]),?_,(Nat.eq_of_beq_eq_true hp).symm⟩
   simp only [a3E,hk]
   exact ⟨_,rfl,by rw [Array.length_toList];exact hs⟩
  | sl e =>
   rw [hk] at hp
   simp only [Bool.and_eq_true] at hp
   obtain ⟨⟨hs1,hpe⟩,h0⟩:=hp
   have he:Nat.blt e E.n=true:=by
    cases f with
    | zero=>simp [a2C] at hpe
    | succ f=>simp only [a2C,Bool.and_eq_true] at hpe;exact hpe.1
   rcases open_slice (a3z hok ht hk) h with ⟨rfl,_⟩|⟨a,len,cap,m,n,D,Pl,rfl,_,hl,hm,hmm,_,hx⟩
   ·refine ⟨[.sl (E.ti e).sz []],RelL.cons ?_ (by simp [Abs.RelL]),?_,(Nat.eq_of_beq_eq_true hs1).symm⟩
    ·simp only [Abs.Rel]
     exact ⟨none,0,[],rfl,Nat.le_refl _,Nat.zero_le _,by simp [Abs.RelL],fun _ h=>absurd h (by simp),fun h=>absurd rfl h⟩
    ·simp only [a3E,hk]
     exact ⟨[],rfl,Nat.zero_le _,fun _ h=>absurd h (by simp)⟩
   ·simp only [if_true] at hmm
    subst hmm
    have hx2:∀i,i<m->∃(p:(List Value × List AV) × Value),W.cells? 0 (a.add (i*(E.ti e).sz)) (E.ti e).sz=some p.1.1/\a3E E f e p.1.2/\p.2.cells.toList=p.1.1/\E.Rel [] W (elA (E.ti e).k.agg p.1.2) p.2/\p.1.1.length=(E.ti e).sz:=fun i hi=>by
     obtain ⟨cs',h1,h2⟩:=hx i hi
     rw [a6d hok he] at h1
     obtain ⟨xs,h3,h4,h5⟩:=a9T hok hX f n e cs' _ hpe h2
     obtain ⟨u,h6,h7⟩:=c5G h4 h3
     exact ⟨((cs',xs),u),h1,h4,h6,h7,h5⟩
    obtain ⟨V,hV⟩:=choose_lt hx2
    have hrel:E.RelL [] W ((List.range len).map fun i=>elA (E.ti e).k.agg (V i).1.2) ((List.range len).map fun i=>(V i).2):=a8C _ fun i hi=>(hV i (by have:=List.mem_range.1 hi;omega)).2.2.2.1
    have hsz:∀u∈(List.range len).map (fun i=>(V i).2),u.cells.size=(E.ti e).sz:=fun u hu=>by
     obtain ⟨i,hi,rfl⟩:=List.mem_map.1 hu
     have h1:=hV i (by have:=List.mem_range.1 hi;omega)
     have:=congrArg List.length h1.2.2.1
     rw [h1.2.2.2.2] at this
     simpa using this
    have h0':0<(E.ti e).sz:=by simpa using h0
    refine ⟨[.sl (E.ti e).sz ((List.range len).map fun i=>elA (E.ti e).k.agg (V i).1.2)],RelL.cons ?_ (by simp [Abs.RelL]),?_,(Nat.eq_of_beq_eq_true hs1).symm⟩
    ·simp only [Abs.Rel]
     refine ⟨some a,m,_,by simp,by simpa using hl,hm,hrel,hsz,fun hne=>⟨a,rfl,?_,by simp,hX _,?_⟩⟩
     ·have hlen:0<len:=by
       rcases Nat.eq_zero_or_pos len with h|h
       ·subst h;exact absurd rfl hne
       ·exact h
      obtain ⟨_,h2,h3⟩:=World.cells?_some (hV 0 (by omega)).1
      have h4:=h3 0 h0'
      rw [Nat.zero_mul] at h4
      have h5:(V 0).1.1[0]?≠none:=by
       rw [List.getElem?_eq_getElem (by rw [h2];exact h0')];simp
      rw [<- h4] at h5
      have h6:((a.add 0).add 0)=a:=by simp [Addr.add]
      rw [h6] at h5
      rcases Nat.lt_or_ge a.block W.heap.size with h7|h7
      ·exact h7
      exfalso
      apply h5
      unfold World.cell?
      rw [Array.getElem?_eq_none h7]
     intro j u hj
     have hlt:j<len*(E.ti e).sz:=by
      have:=(List.getElem?_eq_some_iff.1 hj).1
      rw [a1k hsz] at this
      simpa using this
     have hi:j / (E.ti e).sz<len:=Nat.div_lt_of_lt_mul (by rw [Nat.mul_comm];exact hlt)
     have hr:j%(E.ti e).sz<(E.ti e).sz:=Nat.mod_lt _ h0'
     have hj2:j=j / (E.ti e).sz*(E.ti e).sz+j%(E.ti e).sz:=by rw [Nat.mul_comm];exact (Nat.div_add_mod j _).symm
     generalize hqi:j / (E.ti e).sz=i at hi hj2
     generalize hqr:j%(E.ti e).sz=r at hr hj2
     have h1:=hV i (by omega)
     rw [hj2,a9d (k:=(E.ti e).sz) (v:=(V i).2) hsz (by simp [hi]) r hr,h1.2.2.1] at hj
     obtain ⟨_,_,h3⟩:=World.cells?_some h1.1
     rw [hj2,<- add_add,h3 r hr,hj]
    ·simp only [a3E,hk]
     refine ⟨_,rfl,by simp;omega,fun y hy=>?_⟩
     obtain ⟨i,hi,rfl⟩:=List.mem_map.1 hy
     exact ⟨_,rfl,(hV i (by have:=List.mem_range.1 hi;omega)).2.1⟩
  | struct fs =>
   rw [hk] at hp
   simp only [Bool.and_eq_true] at hp
   obtain ⟨F,h1,h2⟩:=a3A hok ht hk
   obtain ⟨xs,n,_,_,hcl,hxl,hf⟩:=DataW.trod_struct h1 h
   rw [a6d hok ht] at hcl
   subst h2
   obtain ⟨ys,h3,h4⟩:=b0t (cs:=cs) (n:=n) (f:=f) (fun t cs x=>a9T hok hX f n t cs x) hok F.toList 0 (by rw [hcl];exact hp.1) hp.2 (Nat.zero_le _) (fun g hg=>by
    obtain ⟨i,hi,he⟩:=List.getElem_of_mem hg
    have h5:=hf i g (by simpa [Array.getElem?_eq_some_iff] using ⟨by simpa using hi,he⟩)
    rw [h5]
    exact ⟨_,List.getElem?_eq_getElem (by rw [hxl];simpa using hi)⟩)
   refine ⟨ys,by simpa using h3,?_,hcl⟩
   simp only [a3E,hk]
   exact h4
  | _=>rw [hk] at hp;simp at hp
end
end Go.Abs
namespace Go.Abs
open Go.RowKit Go.ChangeShapes Go.WideShapes
section
variable{E:Env}{H:Type}{enc:TypeId × Value->H}{W:World}
theorem c0x(hok:E.Ok)(hX:∀b,¬ E.X b){f:Nat}{t:TypeId}{v:Value}{d:DataW H}{ps:List MemPlace}{base:Nat}(hp:a2C E f t=true)(hna:(E.ti t).k.agg=false)
  (hval:Value.okWide E.P W .any base t v) (h:DataW.Trod enc E.P W 0 (fun _=>true) true t v d ps):∃x,E.Rel [] W x v/\a3E E f t [x]:=by
 obtain ⟨fuel,hf⟩:=h
 obtain ⟨xs,h1,h2,h3⟩:=a9T hok hX f fuel t _ _ hp hf
 obtain ⟨x,v',rfl,h5,h6,h7⟩:=one_cell h2 hna h1
 have hv:v.cells.toList=[v]:=by
  cases f with
  | zero=>simp [a2C] at hp
  | succ f =>
   simp only [a2C,Bool.and_eq_true] at hp
   obtain ⟨ht,hp⟩:=hp
   cases hk:(E.ti t).k with
   | int k=>obtain ⟨n,rfl⟩:=okWide_int (a5V hok ht hk) hval;rfl
   | bool=>obtain ⟨n,rfl⟩:=WideShapes.okWide_bool (b2u hok ht hk) hval;rfl
   | str=>obtain ⟨n,rfl⟩:=okWide_string (a8O hok ht hk) hval;rfl
   | sl e=>obtain ⟨a,l,c,rfl⟩:=okWide_slice (a3z hok ht hk) hval;rfl
   | struct fs=>rw [hk] at hna;cases hna
   | _=>rw [hk] at hp;simp at hp
 rw [hv] at h5
 simp only [List.cons.injEq,and_true] at h5
 subst h5
 exact ⟨x,h6,h2⟩
theorem a4v{P:Program}(hl:laidOutB P=true){W':World}(hb:Below W.heap.size W W'){sp:Nat->Bool}:∀{ts:List TypeId} {vs:List Value} {ds:List (DataW H)} {ps:List MemPlace},
  (ts.all fun t=>P.readableRec t&&decide (t<P.types.size))=true->DataW.TrodAll enc P W 0 (fun _=>true) true ts vs ds ps->(∀p∈ps,p.block<W.heap.size)->(∀p∈ps,sp p.block=true)->DataW.TrodAll enc P W' 0 sp true ts vs ds ps
 | [],_,_,_,_,h,_,_=>by obtain ⟨rfl,rfl,rfl⟩:=trodAll_nil h;rfl
 | t::ts,_,_,_,ht,h,hlt,hs=>by
  obtain ⟨v,vs,d,ds,p,q,rfl,rfl,rfl,h1,h2⟩:=trodAll_cons h
  simp only [List.all_cons,Bool.and_eq_true,decide_eq_true_eq] at ht
  exact ⟨p,q,WideElems.Trod_stays hl ht.1.1 ht.1.2 h1 (fun x hx=>hb.same (hlt x (List.mem_append_left _ hx))) (fun x hx=>hs x (List.mem_append_left _ hx)),
   a4v hl hb ht.2 h2 (fun x hx=>hlt x (List.mem_append_right _ hx)) (fun x hx=>hs x (List.mem_append_right _ hx)),rfl⟩
theorem a8R{W':World}(hb:Below W.heap.size W W')(may:MemPlace->Prop):W.keptBut W' may:=by
 refine ⟨hb.os,hb.output,fun i hi=>?_⟩
 rw [hb.block i hi]
 cases h:W.heap[i]? with
 | none=>rfl
 | some o=>cases o<;>simp
theorem b6Y{P:Program}{f:Func}{s:ChangeSpec}{apart fresh handsOn again:Bool}{W':World}{args:Array Value}{ds gs:List (DataW H)}{before:List MemPlace}{tb:TypeId}
  (hl:laidOutB P=true) (hvars:s.vars=[]) (hp:(f.params.toList.all fun t=>P.readableRec t&&decide (t<P.types.size))=true)
  (hrt:f.resultTypes=#[tb]) (htb:P.underlying tb=some .bool)
  (hres:(s.fn H (ds++gs)).results=[.lit (.bool true)]) (hargs:(s.fn H (ds++gs)).args=ds) (hv0:(s.fn H (ds++gs)).vars=[])
  (hW:DataW.Whole enc P f.params.toList s.vars apart W args.toList ds gs before) (hb:Below W.heap.size W W') :
  s.post enc P f apart fresh handsOn again W args (.bool true) W':=by
 have hlt:=hW.lt
 have hW':=hW
 obtain ⟨p,q,h1,h2,rfl,hz,hn⟩:=hW'
 rw [hvars] at h2
 obtain ⟨hgs,rfl⟩:=trodVars_none h2
 rw [List.append_nil] at hlt hz hn
 have hr:∀(b:Nat) (sp:Nat->Bool) (hd:Bool),DataW.TrodAll enc P W' b sp hd f.resultTypes.toList ((Value.bool true).resultList f.resultTypes.size) [.lit (.bool true)] []:=fun b sp hd=>by
  rw [hrt]
  exact trodAll_mk1 ⟨1,by simp [DataW.trod,htb,Value.cells]⟩
 refine ⟨ds,gs,p++[],[],p,[],hW,by rw [hres];exact hr _ _ _,?_,?_,a8R hb _,fun _=>⟨?_,_,[],([]++p)++[],⟨[]++p,[],trodAll_append (a4v hl hb hp h1 hlt fun _ _=>rfl) (hr _ _ _),?_,rfl,?_,?_⟩,?_⟩⟩
 ·rw [hargs]
  exact a4v hl hb hp h1 hlt fun x hx=>by simpa using hlt x hx
 ·rw [hv0,hvars];rfl
 ·exact ok_one hrt rfl (okWide_bool_mk htb true)
 ·rw [hvars];rfl
 ·intro b off hm
  simp only [List.nil_append,List.append_nil] at hm
  have h3:=hlt _ hm
  have h4:=hz b off hm
  unfold World.frozen? at h4 ⊢
  rw [hb.block b h3]
  exact h4
 ·intro ha
  simpa using hn ha
 intro x hx _
 simpa using hx
end
end Go.Abs
namespace Go.Abs
mutual
def rnA(f:Nat->Nat):AV->AV
 | .fp cs=>.fp (rnL f cs)
 | .ptr id off=>.ptr (f id) off
 | .pe id i off=>.pe (f id) i off
 | .sl k es=>.sl k (rnL f es)
 | .own id lo n=>.own (f id) lo n
 | .mp id=>.mp (f id)
 | .agg cs=>.agg (rnL f cs)
 | .tup cs=>.tup (rnL f cs)
 | .clo fn a c=>.clo fn (rnL f a) (rnL f c)
 | .ifc t x=>.ifc t (rnA f x)
 | x=>x
def rnL(f:Nat->Nat):List AV->List AV
 | []=>[]
 | x::xs=>rnA f x::rnL f xs
end
def rnO(f:Nat->Nat):AO->AO
 | .cells cs e=>.cells (rnL f cs) e
 | .arr es e=>.arr (rnL f es) e
 | .map es=>.map ((rnL f (es.map (·.1))).zip (rnL f (es.map (·.2))))
 | .itr s p=>.itr s p
theorem b2b(f:Nat->Nat):∀l:List AV,(rnL f l).length=l.length
 | []=>rfl
 | _::l=>by simp [rnL,b2b f l]
mutual
def Rn(F:Nat->Option Nat):AV->AV->Prop
 | .fp cs,y=>∃ds,RnL F cs ds/\y=.fp ds
 | .ptr id off,y=>∃j,F id=some j/\y=.ptr j off
 | .pe id i off,y=>∃j,F id=some j/\y=.pe j i off
 | .sl k es,y=>∃ds,RnL F es ds/\y=.sl k ds
 | .own id lo n,y=>∃j,F id=some j/\y=.own j lo n
 | .mp id,y=>∃j,F id=some j/\y=.mp j
 | .agg cs,y=>∃ds,RnL F cs ds/\y=.agg ds
 | .tup cs,y=>∃ds,RnL F cs ds/\y=.tup ds
 | .clo fn a c,y=>∃b d,RnL F a b/\RnL F c d/\y=.clo fn b d
 | .ifc t x,y=>∃z,Rn F x z/\y=.ifc t z
 | .gp k zs,y=>y=.gp k zs
 | .any,y=>y=.any
 | .int k n,y=>y=.int k n
 | .bool b,y=>y=.bool b
 | .str s,y=>y=.str s
 | .nilp,y=>y=.nilp
 | .nils,y=>y=.nils
 | .nilm,y=>y=.nilm
 | .nilf,y=>y=.nilf
 | .nili,y=>y=.nili
def RnL(F:Nat->Option Nat):List AV->List AV->Prop
 | [],ys=>ys=[]
 | x::xs,ys=>∃z zs,Rn F x z/\RnL F xs zs/\ys=z::zs
end
section
variable{F:Nat->Option Nat}{f:Nat->Nat}{n:Nat}
mutual
theorem c2P(hF:∀i,i<n->F i=some (f i)):∀x:AV,a0d n x->Rn F x (rnA f x)
 | .any,_|.int _ _,_|.bool _,_|.str _,_|.nilp,_|.nils,_|.nilm,_|.nilf,_|.nili,_|.gp _ _,_=>by simp [Rn,rnA]
 | .fp cs,h=>by simp only [Rn,rnA];exact ⟨_,a4t hF cs (by simpa [a0d] using h),rfl⟩
 | .ptr id off,h=>by simp only [Rn,rnA];exact ⟨_,hF id (by simpa [a0d] using h),rfl⟩
 | .pe id i off,h=>by simp only [Rn,rnA];exact ⟨_,hF id (by simpa [a0d] using h),rfl⟩
 | .sl k cs,h=>by simp only [Rn,rnA];exact ⟨_,a4t hF cs (by simpa [a0d] using h),rfl⟩
 | .own id lo m,h=>by simp only [Rn,rnA];exact ⟨_,hF id (by simpa [a0d] using h),rfl⟩
 | .mp id,h=>by simp only [Rn,rnA];exact ⟨_,hF id (by simpa [a0d] using h),rfl⟩
 | .agg cs,h=>by simp only [Rn,rnA];exact ⟨_,a4t hF cs (by simpa [a0d] using h),rfl⟩
 | .tup cs,h=>by simp only [Rn,rnA];exact ⟨_,a4t hF cs (by simpa [a0d] using h),rfl⟩
 | .clo fn a c,h=>by simp only [Rn,rnA];simp only [a0d] at h;exact ⟨_,_,a4t hF a h.1,a4t hF c h.2,rfl⟩
 | .ifc t x,h=>by simp only [Rn,rnA];exact ⟨_,c2P hF x (by simpa [a0d] using h),rfl⟩
theorem a4t(hF:∀i,i<n->F i=some (f i)):∀xs:List AV,a0e n xs->RnL F xs (rnL f xs)
 | [],_=>by simp [RnL,rnL]
 | x::xs,h=>by simp only [RnL,rnL];simp only [a0e] at h;exact ⟨_,_,c2P hF x h.1,a4t hF xs h.2,rfl⟩
end
mutual
theorem c4U(hF:∀i,i<n->F (f i)=some i):∀x:AV,a0d n x->Rn F (rnA f x) x
 | .any,_|.int _ _,_|.bool _,_|.str _,_|.nilp,_|.nils,_|.nilm,_|.nilf,_|.nili,_|.gp _ _,_=>by simp [Rn,rnA]
 | .fp cs,h=>by simp only [Rn,rnA];exact ⟨_,a3Y hF cs (by simpa [a0d] using h),rfl⟩
 | .ptr id off,h=>by simp only [Rn,rnA];exact ⟨_,hF id (by simpa [a0d] using h),rfl⟩
 | .pe id i off,h=>by simp only [Rn,rnA];exact ⟨_,hF id (by simpa [a0d] using h),rfl⟩
 | .sl k cs,h=>by simp only [Rn,rnA];exact ⟨_,a3Y hF cs (by simpa [a0d] using h),rfl⟩
 | .own id lo m,h=>by simp only [Rn,rnA];exact ⟨_,hF id (by simpa [a0d] using h),rfl⟩
 | .mp id,h=>by simp only [Rn,rnA];exact ⟨_,hF id (by simpa [a0d] using h),rfl⟩
 | .agg cs,h=>by simp only [Rn,rnA];exact ⟨_,a3Y hF cs (by simpa [a0d] using h),rfl⟩
 | .tup cs,h=>by simp only [Rn,rnA];exact ⟨_,a3Y hF cs (by simpa [a0d] using h),rfl⟩
 | .clo fn a c,h=>by simp only [Rn,rnA];simp only [a0d] at h;exact ⟨_,_,a3Y hF a h.1,a3Y hF c h.2,rfl⟩
 | .ifc t x,h=>by simp only [Rn,rnA];exact ⟨_,c4U hF x (by simpa [a0d] using h),rfl⟩
theorem a3Y(hF:∀i,i<n->F (f i)=some i):∀xs:List AV,a0e n xs->RnL F (rnL f xs) xs
 | [],_=>by simp [RnL,rnL]
 | x::xs,h=>by simp only [RnL,rnL];simp only [a0e] at h;exact ⟨_,_,c4U hF x h.1,a3Y hF xs h.2,rfl⟩
end
mutual
theorem a2h:∀x:AV,a0d 0 x->rnA f x=x
 | .any,_|.int _ _,_|.bool _,_|.str _,_|.nilp,_|.nils,_|.nilm,_|.nilf,_|.nili,_|.gp _ _,_=>by simp [rnA]
 | .fp cs,h=>by simp only [rnA];rw [a1r cs (by simpa [a0d] using h)]
 | .ptr id off,h=>by simp [a0d] at h
 | .pe id i off,h=>by simp [a0d] at h
 | .sl k cs,h=>by simp only [rnA];rw [a1r cs (by simpa [a0d] using h)]
 | .own id lo m,h=>by simp [a0d] at h
 | .mp id,h=>by simp [a0d] at h
 | .agg cs,h=>by simp only [rnA];rw [a1r cs (by simpa [a0d] using h)]
 | .tup cs,h=>by simp only [rnA];rw [a1r cs (by simpa [a0d] using h)]
 | .clo fn a c,h=>by simp only [a0d] at h;simp only [rnA];rw [a1r a h.1,a1r c h.2]
 | .ifc t x,h=>by simp only [rnA];rw [a2h x (by simpa [a0d] using h)]
theorem a1r:∀xs:List AV,a0e 0 xs->rnL f xs=xs
 | [],_=>by simp [rnL]
 | x::xs,h=>by simp only [a0e] at h;simp only [rnL];rw [a2h x h.1,a1r xs h.2]
end
end
section
variable{F:Nat->Option Nat}{sz sz2:Cx}{m m2:Mu}{w:World}
mutual
theorem Rel.rn(c:Cmp F sz sz2 m m2):∀(x:AV) {y:AV} {v:Value},Rn F x y->Rel sz m w x v->Rel sz2 m2 w y v
 | .any,_,_,hy,_=>by simp only [Rn] at hy;subst hy;simp [Rel]
 | .int _ _,_,_,hy,h|.bool _,_,_,hy,h|.str _,_,_,hy,h|.nilp,_,_,hy,h|.nils,_,_,hy,h|.nilm,_,_,hy,h|.nilf,_,_,hy,h|.nili,_,_,hy,h=>by
  simp only [Rn] at hy;subst hy;simpa [Rel] using h
 | .fp cs,_,_,hy,h=>by
  simp only [Rn] at hy;obtain ⟨ds,hd,rfl⟩:=hy
  simp only [Rel] at h ⊢
  obtain ⟨a,us,h1,h2,h3⟩:=h
  exact ⟨a,us,h1,RelL.rn c cs hd h2,h3.cmp c⟩
 | .ptr id off,_,_,hy,h=>by
  simp only [Rn] at hy;obtain ⟨j,hd,rfl⟩:=hy
  simp only [Rel] at h ⊢
  obtain ⟨a,h1,h2,h3⟩:=h
  obtain ⟨h4,h5⟩:=c.id id j hd h2
  exact ⟨a,h1,h4,fun b hb=>h3 b (h5 _ (by simp) hb)⟩
 | .pe id i off,_,_,hy,h=>by
  simp only [Rn] at hy;obtain ⟨j,hd,rfl⟩:=hy
  simp only [Rel] at h ⊢
  obtain ⟨a,h1,h2⟩:=h
  exact ⟨a,h1,h2.cmp c hd⟩
 | .sl k es,_,_,hy,h=>by
  simp only [Rn] at hy;obtain ⟨ds,hd,rfl⟩:=hy
  simp only [Rel] at h ⊢
  obtain ⟨A,cp,vs,h1,h2,h3,h4,h5,h6⟩:=h
  have hl:ds.length=es.length:=by
   have e1:=h4.length
   have e2:=(RelL.rn c es hd h4).length
   omega
  exact ⟨A,cp,vs,by rw [hl];exact h1,by rw [hl];exact h2,h3,RelL.rn c es hd h4,h5,h6.cmp c⟩
 | .own id lo n,_,_,hy,h=>by
  simp only [Rn] at hy;obtain ⟨j,hd,rfl⟩:=hy
  simp only [Rel] at h ⊢
  obtain ⟨a,cp,h1,h2,h3,h4⟩:=h
  exact ⟨a,cp,h1,h2,h3,h4.cmp c hd⟩
 | .mp id,_,_,hy,h=>by
  simp only [Rn] at hy;obtain ⟨j,hd,rfl⟩:=hy
  simp only [Rel] at h ⊢
  obtain ⟨r,h1,h2,h3⟩:=h
  obtain ⟨h4,h5⟩:=c.id id j hd h2
  exact ⟨r,h1,h4,fun b hb=>h3 b (h5 _ (by simp) hb)⟩
 | .agg cs,_,_,hy,h=>by
  simp only [Rn] at hy;obtain ⟨ds,hd,rfl⟩:=hy
  simp only [Rel] at h ⊢
  obtain ⟨us,h1,h2⟩:=h
  exact ⟨us,h1,RelL.rn c cs hd h2⟩
 | .tup cs,_,_,hy,h=>by
  simp only [Rn] at hy;obtain ⟨ds,hd,rfl⟩:=hy
  simp only [Rel] at h ⊢
  obtain ⟨us,h1,h2⟩:=h
  exact ⟨us,h1,RelL.rn c cs hd h2⟩
 | .clo fn a c',_,_,hy,h=>by
  simp only [Rn] at hy;obtain ⟨b,d,hb,hd,rfl⟩:=hy
  simp only [Rel] at h ⊢
  obtain ⟨us,vs,h1,h2,h3⟩:=h
  exact ⟨us,vs,h1,RelL.rn c a hb h2,RelL.rn c c' hd h3⟩
 | .ifc t x,_,_,hy,h=>by
  simp only [Rn] at hy;obtain ⟨z,hd,rfl⟩:=hy
  simp only [Rel] at h ⊢
  obtain ⟨u,h1,h2⟩:=h
  exact ⟨u,h1,Rel.rn c x hd h2⟩
 | .gp k zs,_,_,hy,h=>by
  simp only [Rn] at hy;subst hy
  simp only [Rel] at h ⊢
  obtain ⟨b,t,h1,h2,h3⟩:=h
  exact ⟨b,t,h1,h2,h3.cmp c⟩
theorem RelL.rn(c:Cmp F sz sz2 m m2):∀(xs:List AV) {ys:List AV} {vs:List Value},RnL F xs ys->RelL sz m w xs vs->RelL sz2 m2 w ys vs
 | [],_,_,hy,h=>by simp only [RnL] at hy;subst hy;simpa [RelL] using h
 | x::xs,_,_,hy,h=>by
  simp only [RnL] at hy;obtain ⟨z,zs,h1,h2,rfl⟩:=hy
  simp only [RelL] at h ⊢
  obtain ⟨u,r,h3,h4,h5⟩:=h
  exact ⟨u,r,h3,Rel.rn c x h1 h4,RelL.rn c xs h2 h5⟩
end
end
end Go.Abs
namespace Go.Abs
def RnO(F:Nat->Option Nat):AO->AO->Prop
 | .cells cs e,y=>∃ds,RnL F cs ds/\y=.cells ds e
 | .arr cs e,y=>∃ds,RnL F cs ds/\y=.arr ds e
 | .map es,y=>∃es',RnL F (es.map (·.1)) (es'.map (·.1))/\RnL F (es.map (·.2)) (es'.map (·.2))/\y=.map es'
 | .itr s p,y=>y=.itr s p
theorem b2c(f:Nat->Nat)(es:List (AV × AV)):((rnL f (es.map (·.1))).zip (rnL f (es.map (·.2)))).map (·.1)=rnL f (es.map (·.1)) :=
 List.map_fst_zip (by simp [b2b])
theorem b2d(f:Nat->Nat)(es:List (AV × AV)):((rnL f (es.map (·.1))).zip (rnL f (es.map (·.2)))).map (·.2)=rnL f (es.map (·.2)) :=
 List.map_snd_zip (by simp [b2b])
theorem c4R{F:Nat->Option Nat}{f:Nat->Nat}{n:Nat}(hF:∀i,i<n->F i=some (f i)):∀o:AO,a2b n o->RnO F o (rnO f o)
 | .cells cs e,h=>⟨_,a4t hF cs h,rfl⟩
 | .arr cs e,h=>⟨_,a4t hF cs h,rfl⟩
 | .map es,h=>⟨_,by rw [b2c];exact a4t hF _ h.1,by rw [b2d];exact a4t hF _ h.2,rfl⟩
 | .itr _ _,_=>rfl
theorem c4S{F:Nat->Option Nat}{f:Nat->Nat}{n:Nat}(hF:∀i,i<n->F (f i)=some i):∀o:AO,a2b n o->RnO F (rnO f o) o
 | .cells cs e,h=>⟨_,a3Y hF cs h,rfl⟩
 | .arr cs e,h=>⟨_,a3Y hF cs h,rfl⟩
 | .map es,h=>⟨_,by rw [b2c];exact a3Y hF _ h.1,by rw [b2d];exact a3Y hF _ h.2,rfl⟩
 | .itr _ _,_=>rfl
theorem OB.rn{F:Nat->Option Nat}{sz sz2:Cx}{m m2:Mu}{w:World}(c:Cmp F sz sz2 m m2){o o':AO}{x:MS}(hr:RnO F o o')(h:OB sz m w o x):OB sz2 m2 w o' x:=by
 cases x with
 | dead=>cases o<;>exact h.elim
 | nil =>
  cases o with
  | cells cs e=>exact h.elim
  | map es=>exact h.elim
  | itr s p=>exact h.elim
  | arr es e =>
   obtain ⟨ds,h1,rfl⟩:=hr
   simp only [OB] at h ⊢
   subst h
   simpa [RnL] using h1
 | blk b =>
  cases o with
  | cells cs e =>
   obtain ⟨ds,h1,rfl⟩:=hr
   obtain ⟨us,h2,h3⟩:=h
   exact ⟨us,h2,RelL.rn c _ h1 h3⟩
  | arr es e =>
   obtain ⟨ds,h1,rfl⟩:=hr
   obtain ⟨us,vs,h2,h3,h4,h5⟩:=h
   exact ⟨us,vs,h2,RelL.rn c _ h1 h3,by rw [c.szs];exact h4,h5⟩
  | map es =>
   obtain ⟨es',h1,h2,rfl⟩:=hr
   obtain ⟨us,clock,h3,h4,h5,h6,h7⟩:=h
   exact ⟨us,clock,h3,h4,h5,RelL.rn c _ h1 h6,RelL.rn c _ h2 h7⟩
  | itr s p =>
   have e:o'=.itr s p:=hr
   subst e
   exact h
def a1S{α:Type}:List α->List Nat->List α->List α
 | l,i::is,x::xs=>a1S (l.set i x) is xs
 | l,_,_=>l
section
variable{α:Type}
theorem a2s:∀(l:List α) (is:List Nat) (xs:List α),(a1S l is xs).length=l.length
 | l,[],_=>by simp [a1S]
 | l,_::_,[]=>by simp [a1S]
 | l,i::is,x::xs=>by simp [a1S,a2s (l.set i x) is xs]
theorem a6z:∀(l:List α) (is:List Nat) (xs:List α) (i:Nat),i ∉ is->(a1S l is xs)[i]?=l[i]?
 | l,[],_,_,_=>by simp [a1S]
 | l,_::_,[],_,_=>by simp [a1S]
 | l,a::is,x::xs,i,h=>by
  simp only [List.mem_cons,not_or] at h
  simp only [a1S]
  rw [a6z _ is xs i h.2,List.getElem?_set_ne (Ne.symm h.1)]
theorem b0R:∀(l:List α) (is:List Nat) (xs:List α) (j i:Nat) (x:α),is.Nodup->is[j]?=some i->xs[j]?=some x->i<l.length->(a1S l is xs)[i]?=some x
 | _,[],_,_,_,_,_,h,_,_=>by simp at h
 | _,_::_,[],_,_,_,_,_,h,_=>by simp at h
 | l,a::is,b::xs,0,i,x,hn,h1,h2,h3=>by
  simp only [List.getElem?_cons_zero,Option.some.injEq] at h1 h2
  subst h1 h2
  simp only [a1S]
  rw [a6z _ is xs a (List.nodup_cons.1 hn).1,List.getElem?_set_self h3]
 | l,a::is,b::xs,j+1,i,x,hn,h1,h2,h3=>by
  simp only [List.getElem?_cons_succ] at h1 h2
  simp only [a1S]
  exact b0R _ is xs j i x (List.nodup_cons.1 hn).2 h1 h2 (by simpa using h3)
end
def reN(ids:List Nat)(n j:Nat):Nat:=(ids[j]?).getD (n+(j - ids.length))
def mrg{α:Type}(ids:List Nat)(H h':List α):List α:=a1S H ids h'++h'.drop ids.length
section
variable{α:Type}{ids:List Nat}{H h':List α}
theorem b0A{n j:Nat}(h:j<ids.length):ids[j]?=some (reN ids n j):=by
 unfold reN;rw [List.getElem?_eq_getElem h];rfl
theorem b7i{n j:Nat}(h:ids.length<=j):reN ids n j=n+(j - ids.length):=by
 unfold reN;rw [List.getElem?_eq_none h];rfl
theorem a3W(hnd:ids.Nodup)(hlt:∀i∈ids,i<H.length){j:Nat}{x:α}(h:h'[j]?=some x):(mrg ids H h')[reN ids H.length j]?=some x:=by
 unfold mrg
 rcases Nat.lt_or_ge j ids.length with hj|hj
 ·have h1:=b0A (n:=H.length) hj
  have h2:=hlt _ (List.mem_of_getElem? h1)
  rw [List.getElem?_append_left (by rw [a2s];exact h2)]
  exact b0R H ids h' j _ x hnd h1 h h2
 rw [b7i hj,List.getElem?_append_right (by rw [a2s];omega),a2s,List.getElem?_drop]
 have:ids.length+(H.length+(j - ids.length) - H.length)=j:=by omega
 rw [this];exact h
theorem a3a{i:Nat}(hi:i ∉ ids)(h:i<H.length):(mrg ids H h')[i]?=H[i]?:=by
 unfold mrg
 rw [List.getElem?_append_left (by rw [a2s];exact h),a6z _ _ _ _ hi]
theorem a2Z(hk:ids.length<=h'.length){i:Nat}{x:α}(h:(mrg ids H h')[i]?=some x):(i ∉ ids/\i<H.length)\/∃j,j<h'.length/\i=reN ids H.length j:=by
 by_cases hi:i∈ids
 ·obtain ⟨j,hj,he⟩:=List.getElem_of_mem hi
  have h1:=b0A (n:=H.length) hj
  rw [List.getElem?_eq_getElem hj,he] at h1
  exact .inr ⟨j,by omega,by simpa using h1⟩
 rcases Nat.lt_or_ge i H.length with hl|hg
 ·exact .inl ⟨hi,hl⟩
 right
 have hlen:=(List.getElem?_eq_some_iff.1 h).1
 unfold mrg at hlen
 rw [List.length_append,a2s,List.length_drop] at hlen
 refine ⟨i - H.length+ids.length,by omega,?_⟩
 rw [b7i (by omega)];omega
theorem b6E(hk:ids.length<=h'.length):(mrg ids H h').length=H.length+(h'.length - ids.length):=by
 unfold mrg;rw [List.length_append,a2s,List.length_drop]
end
theorem a0b.frame{E:Env}{fn:FuncId}{args:List AV}{h:Hp}{R:AV->Hp->Prop}(hc:∀X,a0b (E.wX X) fn args h R)(ids:List Nat)(H:Hp)(hnd:ids.Nodup)(hlen:ids.length=h.length)
  (hsome:∀j:Nat,h[j]?≠some none) (hlive:∀(j i:Nat) (o:AO),ids[j]?=some i->h[j]?=some (some o)->H[i]?=some (some (rnO (reN ids H.length) o)))
  (hargs:a0e h.length args) (hhok:HOk h.length h) :
  a0b E fn (rnL (reN ids H.length) args) H (fun r H'=>∃r0 h',R r0 h'/\h.length<=h'.length/\r=rnA (reN ids H.length) r0/\H'=mrg ids H (h'.map fun o=>o.map (rnO (reN ids H.length)))):=by
 refine ⟨(hc E.X).1,fun m w vs hok hglob hrel hsim=>?_⟩
 have hml:m.length=H.length:=hsim.len
 have hin:∀i∈ids,i<H.length:=fun i hi=>by
  obtain ⟨j,hj,he⟩:=List.getElem_of_mem hi
  have h1:ids[j]?=some i:=by rw [List.getElem?_eq_getElem hj,he]
  have h2:j<h.length:=by omega
  have h3:=hsome j
  rw [List.getElem?_eq_getElem h2] at h3
  cases ho:h[j] with
  | none=>rw [ho] at h3;exact absurd rfl h3
  | some o=>exact (List.getElem?_eq_some_iff.1 (hlive j i o h1 (by rw [List.getElem?_eq_getElem h2,ho]))).1
 let ms:Mu:=ids.map fun i=>m.getD i .dead
 have hmsl:ms.length=h.length:=by simp [ms,hlen]
 have hms:∀(j:Nat) (x:MS),ms[j]?=some x->∃i,ids[j]?=some i/\m[i]?=some x:=fun j x hx=>by
  simp only [ms,List.getElem?_map,Option.map_eq_some_iff] at hx
  obtain ⟨i,h1,h2⟩:=hx
  have h3:=hin i (List.mem_of_getElem? h1)
  refine ⟨i,h1,?_⟩
  rw [List.getElem?_eq_getElem (by omega),<- h2,List.getD_eq_getElem?_getD,List.getElem?_eq_getElem (by omega)]
  rfl
 have hms2:∀(j i:Nat) (x:MS),ids[j]?=some i->m[i]?=some x->ms[j]?=some x:=fun j i x h1 h2=>by
  simp only [ms,List.getElem?_map,h1,Option.map_some,List.getD_eq_getElem?_getD,h2,Option.getD_some]
 have hsub:∀b,MS.blk b∈ms->MS.blk b∈m:=fun b hb=>by
  obtain ⟨j,hj,he⟩:=List.getElem_of_mem hb
  obtain ⟨i,_,h2⟩:=hms j (.blk b) (by rw [List.getElem?_eq_getElem hj,he])
  exact List.mem_of_getElem? h2
 let X2:Nat->Prop:=fun b=>E.X b\/(MS.blk b∈m/\MS.blk b ∉ ms)
 have hF:∀j,j<h.length->ids.idxOf? (reN ids H.length j)=some j:=fun j hj=>by
  have h1:=b0A (n:=H.length) (ids:=ids) (j:=j) (by omega)
  obtain ⟨h2,h3⟩:=List.getElem?_eq_some_iff.1 h1
  rw [List.idxOf?_eq_some_iff]
  refine ⟨h2,h3,fun k hk he=>?_⟩
  have:=(List.getElem_inj hnd).1 (he.trans h3.symm)
  omega
 have hc1:Cmp (fun i=>ids.idxOf? i) E.cx (E.wX X2).cx m ms:=⟨rfl,fun i j hij hi=>by
  rw [List.idxOf?_eq_some_iff] at hij
  obtain ⟨h1,h2,_⟩:=hij
  refine ⟨by omega,fun x _ hx=>?_⟩
  obtain ⟨i',h3,h4⟩:=hms j x hx
  rw [List.getElem?_eq_getElem h1,h2] at h3
  cases h3
  exact h4,fun b hb=>hb.elim (fun hb=>.inl (hsub b hb)) (fun hb=>hb.elim .inr fun hb=>.inl hb.1)⟩
 have hsim1:(E.wX X2).Sim ms w h:=by
  refine ⟨hmsl,fun j o ho=>?_,fun j ho=>absurd ho (hsome j),fun j k b h1 h2=>?_,fun b hb=>hb.elim (hsim.xlt b) (fun hb=>hsim.lt hb.1),fun b hb hx=>hx.elim (hsim.disj b (hsub b hb)) (fun hx=>hx.2 hb)⟩
  ·have hj:j<h.length:=(List.getElem?_eq_some_iff.1 ho).1
   have h1:=b0A (n:=H.length) (ids:=ids) (j:=j) (by omega)
   obtain ⟨x,h2,h3⟩:=hsim.live _ _ (hlive j _ o h1 ho)
   exact ⟨x,hms2 j _ x h1 h2,h3.rn hc1 (c4S hF o (hhok j o ho))⟩
  obtain ⟨a,h3,h4⟩:=hms j _ h1
  obtain ⟨c,h5,h6⟩:=hms k _ h2
  have:=hsim.inj a c b h4 h6
  subst this
  obtain ⟨h7,h8⟩:=List.getElem?_eq_some_iff.1 h3
  obtain ⟨h9,h10⟩:=List.getElem?_eq_some_iff.1 h5
  exact (List.getElem_inj hnd).1 (h8.trans h10.symm)
 have hc0:∀i,i<0->ids.idxOf? i=some i:=fun i h=>absurd h (Nat.not_lt_zero _)
 refine ((hc X2).2 ms w vs hok (fun g=>Rel.cmp hc1 hc0 _ (hok.2.2 g) (hglob g)) (RelL.rn hc1 _ (a3Y hF args hargs) hrel) hsim1).mono ?_
 rintro e w' ⟨v,m1,r0,h',he,hext,hr,hs',hR⟩
 have hk:ids.length<=m1.length:=by have:=hext.len;omega
 have hml1:m1.length=h'.length:=hs'.len
 have hmin:∀i∈ids,i<m.length:=fun i hi=>by rw [hml];exact hin i hi
 have hNm:H.length=m.length:=hml.symm
 rw [hNm]
 have hm2l:(mrg ids m m1).length=m.length+(m1.length - ids.length):=b6E hk
 have hnotin:∀(i:Nat) (b:Nat),i ∉ ids->m[i]?=some (.blk b)->MS.blk b ∉ ms:=fun i b hi hb hm=>by
  obtain ⟨j,hj,he⟩:=List.getElem_of_mem hm
  obtain ⟨i',h1,h2⟩:=hms j (.blk b) (by rw [List.getElem?_eq_getElem hj,he])
  have:=hsim.inj i i' b hb h2
  subst this
  exact hi (List.mem_of_getElem? h1)
 have hext2:Ext m w (mrg ids m m1) w':=by
  refine ⟨hext.os,hext.tape,hext.output,hext.size,fun b hb hm=>hext.keep b hb fun h=>hm (hsub b h),fun b hb hm=>?_,by omega,fun i x hi hx hmi=>?_,hext.shape⟩
  ·obtain ⟨i,hi,he⟩:=List.getElem_of_mem hm
   have h1:(mrg ids m m1)[i]?=some (.blk b):=by rw [List.getElem?_eq_getElem hi,he]
   rcases a2Z hk h1 with ⟨h2,h3⟩|⟨j,h2,h3⟩
   ·rw [a3a h2 h3] at h1;exact List.mem_of_getElem? h1
   ·rw [h3,a3W hnd hmin (List.getElem?_eq_getElem h2)] at h1
    exact hsub b (hext.fresh b hb (by rw [<- Option.some.inj h1];exact List.getElem_mem h2))
  rcases a2Z hk hmi with ⟨h2,h3⟩|⟨j,h2,h3⟩
  ·rw [a3a h2 h3] at hmi;exact hmi
  subst h3
  rw [a3W hnd hmin (List.getElem?_eq_getElem h2)] at hmi
  rcases Nat.lt_or_ge j ids.length with hj|hj
  ·have h4:=hext.ids j x (by omega) hx (by rw [List.getElem?_eq_getElem h2];exact hmi)
   obtain ⟨i',h5,h6⟩:=hms j x h4
   rw [b0A (n:=m.length) hj] at h5
   cases h5
   exact h6
  ·rw [b7i hj] at hi;omega
 have hc2:Cmp (fun j=>if j<m1.length then some (reN ids m.length j) else none) (E.wX X2).cx E.cx m1 (mrg ids m m1):=by
  refine ⟨rfl,fun j i hij hj=>?_,fun b hb=>?_⟩
  ·rw [if_pos hj] at hij
   cases hij
   have h1:=a3W (H:=m) hnd hmin (List.getElem?_eq_getElem hj)
   refine ⟨(List.getElem?_eq_some_iff.1 h1).1,fun x _ hx=>?_⟩
   rw [h1] at hx
   rw [List.getElem?_eq_getElem hj,hx]
  rcases hb with hb|hb
  ·obtain ⟨i,hi,he⟩:=List.getElem_of_mem hb
   have h1:(mrg ids m m1)[i]?=some (.blk b):=by rw [List.getElem?_eq_getElem hi,he]
   rcases a2Z hk h1 with ⟨h2,h3⟩|⟨j,h2,h3⟩
   ·rw [a3a h2 h3] at h1
    exact .inr (.inr ⟨List.mem_of_getElem? h1,hnotin i b h2 h1⟩)
   ·rw [h3,a3W hnd hmin (List.getElem?_eq_getElem h2)] at h1
    exact .inl (by rw [<- Option.some.inj h1];exact List.getElem_mem h2)
  ·exact .inr (.inl hb)
 have hF2:∀j,j<m1.length->(if j<m1.length then some (reN ids m.length j) else none)=some (reN ids m.length j):=fun j hj=>if_pos hj
 refine ⟨v,mrg ids m m1,rnA (reN ids m.length) r0,_,he,hext2,Rel.rn hc2 _ (c2P hF2 r0 (Rel.ids r0 hr)) hr,?_,r0,h',hR,by omega,rfl,rfl⟩
 have hkH:ids.length<=(h'.map fun o=>o.map (rnO (reN ids m.length))).length:=by simp;omega
 have hH':∀{i:Nat} {o:Option AO},(mrg ids H (h'.map fun o=>o.map (rnO (reN ids m.length))))[i]?=some o ->
   (i ∉ ids/\i<H.length/\H[i]?=some o)\/∃(j:Nat) (o0:Option AO),h'[j]?=some o0/\i=reN ids m.length j/\o=o0.map (rnO (reN ids m.length)):=fun {i o} ho=>by
  rcases a2Z hkH ho with ⟨h2,h3⟩|⟨j,h2,h3⟩
  ·rw [a3a h2 h3] at ho;exact .inl ⟨h2,h3,ho⟩
  rw [List.length_map] at h2
  rw [h3,a3W hnd hin (x:=(h'[j]).map (rnO (reN ids m.length))) (by rw [List.getElem?_map,List.getElem?_eq_getElem h2];rfl)] at ho
  exact .inr ⟨j,h'[j],List.getElem?_eq_getElem h2,by rw [h3,hNm],(Option.some.inj ho).symm⟩
 refine ⟨by rw [hm2l,b6E hkH,List.length_map];omega,fun i o ho=>?_,fun i ho=>?_,fun i j b h1 h2=>?_,fun b hb=>Nat.lt_of_lt_of_le (hsim.xlt b hb) hext.size,fun b hb hx=>?_⟩
 ·rcases hH' ho with ⟨h2,h3,h4⟩|⟨j,o0,h2,h3,h4⟩
  ·obtain ⟨x,h5,h6⟩:=hsim.live i o h4
   refine ⟨x,by rw [a3a h2 (by omega)];exact h5,h6.ext hext2 fun b hb=>?_⟩
   subst hb
   exact hext.keep b (hsim.lt (List.mem_of_getElem? h5)) (hnotin i b h2 h5)
  cases o0 with
  | none=>cases h4
  | some o1 =>
   simp only [Option.map_some,Option.some.injEq] at h4
   obtain ⟨x,h5,h6⟩:=hs'.live j o1 h2
   subst h3 h4
   exact ⟨x,a3W hnd hmin h5,h6.rn hc2 (c4R hF2 o1 h6.ids)⟩
 ·rcases hH' ho with ⟨h2,h3,h4⟩|⟨j,o0,h2,h3,h4⟩
  ·rw [a3a h2 (by omega)];exact hsim.dead i h4
  cases o0 with
  | some o1=>cases h4
  | none=>subst h3;exact a3W hnd hmin (hs'.dead j h2)
 ·rcases a2Z hk h1 with ⟨a1,a2⟩|⟨a,a1,a2⟩<;>rcases a2Z hk h2 with ⟨c1,c2⟩|⟨c,c1,c2⟩
  ·rw [a3a a1 a2] at h1;rw [a3a c1 c2] at h2
   exact hsim.inj i j b h1 h2
  ·exfalso
   rw [a3a a1 a2] at h1
   rw [c2,a3W hnd hmin (List.getElem?_eq_getElem c1)] at h2
   have h3:MS.blk b∈m1:=by rw [<- Option.some.inj h2];exact List.getElem_mem c1
   exact hnotin i b a1 h1 (hext.fresh b (hsim.lt (List.mem_of_getElem? h1)) h3)
  ·exfalso
   rw [a3a c1 c2] at h2
   rw [a2,a3W hnd hmin (List.getElem?_eq_getElem a1)] at h1
   have h3:MS.blk b∈m1:=by rw [<- Option.some.inj h1];exact List.getElem_mem a1
   exact hnotin j b c1 h2 (hext.fresh b (hsim.lt (List.mem_of_getElem? h2)) h3)
  rw [a2,a3W hnd hmin (List.getElem?_eq_getElem a1)] at h1
  rw [c2,a3W hnd hmin (List.getElem?_eq_getElem c1)] at h2
  have:=hs'.inj a c b (by rw [List.getElem?_eq_getElem a1];exact h1) (by rw [List.getElem?_eq_getElem c1];exact h2)
  rw [a2,c2,this]
 rcases hc2.sub b (.inl hb) with h3|h3
 ·exact hs'.disj b h3 (.inl hx)
 rcases h3 with h3|h3
 ·obtain ⟨i,hi,he⟩:=List.getElem_of_mem hb
  have h1:(mrg ids m m1)[i]?=some (.blk b):=by rw [List.getElem?_eq_getElem hi,he]
  rcases a2Z hk h1 with ⟨h2,h4⟩|⟨j,h2,h4⟩
  ·rw [a3a h2 h4] at h1;exact hsim.disj b (List.mem_of_getElem? h1) hx
  ·rw [h4,a3W hnd hmin (List.getElem?_eq_getElem h2)] at h1
   exact hs'.disj b (by rw [<- Option.some.inj h1];exact List.getElem_mem h2) (.inl hx)
 ·exact hsim.disj b h3.1 hx
end Go.Abs
namespace Go.Abs
section
variable{E:Env}{ρ:Operand->AV}{H:Hp}{K:AV->Hp->Prop}
variable{d:Option Tmp}{ty:TypeId}{pos:String}{after:Array Edge}{g:Option (Nat × Bool)}
theorem b7P{m:Mu}{w:World}{id b lo:Nat}{es new:List AV}{e:TypeId}{us:Array Value}{vs ws:List Value}(hsim:E.Sim m w H)(hq:m[id]?=some (.blk b))
  (h6:w.heap[b]?=some (.cells us e (0,0))) (h7:E.RelL m w es vs) (h8:∀u∈vs,u.cells.size=E.cx.sz e) (h9:us.toList.take (flat vs).length=flat vs)
  (hsz:E.cx.sz e=1) (hr:E.RelL m w new ws) (hk:∀u∈ws,u.cells.size=1) (hle:lo+new.length<=es.length) :
  Ext m w m (w.setRow b (us.toList.take lo++flat ws++us.toList.drop (lo+(flat ws).length)).toArray) /\
   E.Sim m (w.setRow b (us.toList.take lo++flat ws++us.toList.drop (lo+(flat ws).length)).toArray) (H.set id (some (.arr (spl es lo new) e))):=by
 rw [hsz] at h8
 have hfv:=a1k h8
 have hfw:=a1k hk
 rw [Nat.mul_one] at hfv hfw
 have hl1:=h7.length
 have hl2:=hr.length
 have hus:vs.length<=us.size:=by
  have h1:=congrArg List.length h9
  rw [List.length_take] at h1
  have h2:us.toList.length=us.size:=by simp
  omega
 have hmem:MS.blk b∈m:=List.mem_of_getElem? hq
 have hext:Ext m w m (w.setRow b (us.toList.take lo++flat ws++us.toList.drop (lo+(flat ws).length)).toArray) :=
  Ext.owned hmem rfl rfl rfl (by simp) (fun c hc=>setRow_other w b c _ (by omega)) (fun s hs=>by
   unfold World.shape? at hs ⊢
   rw [h6] at hs
   rw [setRow_heap w b us _ e _ h6]
   simp at hs
   subst hs
   simp only [Option.some.injEq,Prod.mk.injEq,true_and,List.size_toArray,List.length_append,List.length_take,List.length_drop,Array.length_toList]
   omega)
 refine ⟨hext,hsim.owned (ao:=.arr (spl es lo new) e) hext hq (fun c hc=>setRow_other w b c _ (by omega)) ⟨_,vs.take lo++ws++vs.drop (lo+new.length),setRow_heap w b us _ e _ h6,?_,?_,?_⟩⟩
 ·exact RelL.ext hext _ (((h7.take lo).append hr).append (h7.drop (lo+new.length)))
 ·intro u hu
  rw [hsz]
  simp only [List.mem_append] at hu
  rcases hu with (hu|hu)|hu
  ·exact h8 u (List.mem_of_mem_take hu)
  ·exact hk u hu
  ·exact h8 u (List.mem_of_mem_drop hu)
 have e1:flat (vs.take lo++ws++vs.drop (lo+new.length))=(flat vs).take lo++flat ws++(flat vs).drop (lo+new.length):=by
  rw [a5a,a5a,a2B h8,a4k h8,Nat.mul_one,Nat.mul_one]
 have e2:((flat vs).take lo++flat ws++(flat vs).drop (lo+new.length)).length=vs.length:=by
  simp only [List.length_append,List.length_take,List.length_drop];omega
 have h10:flat vs=us.toList.take vs.length:=by rw [<- hfv];exact h9.symm
 rw [e1,e2]
 have h11:(us.toList.take lo++flat ws).length=lo+new.length:=by
  simp only [List.length_append,List.length_take,Array.length_toList];omega
 show List.take vs.length (us.toList.take lo++flat ws++us.toList.drop (lo+(flat ws).length))=_
 rw [List.take_append,h11,List.take_of_length_le (by omega),h10,List.take_take,Nat.min_eq_left (by omega),List.drop_take,hfw,hl2]
theorem a9v{m:Mu}{w:World}{id lo n:Nat}{es:List AV}{e:TypeId}{v:Value}(hsim:E.Sim m w H)(ho:H[id]?=some (some (.arr es e)))(hv:E.Rel m w (.own id lo n) v) :
  ∃(A:Option Addr) (c:Nat),v=.slice A n c/\n<=c/\((m[id]?=some .nil/\es=[]) \/
   ∃b us vs,m[id]?=some (.blk b)/\w.heap[b]?=some (.cells us e (0,0))/\E.RelL m w es vs/\(∀u∈vs,u.cells.size=E.cx.sz e)/\us.toList.take (flat vs).length=flat vs/\(0<c\/lo=0->A=some ⟨b,lo*E.cx.sz e,none⟩)):=by
 simp only [Abs.Rel] at hv
 obtain ⟨A,c,h1,h2,h3,h4,h5,h6⟩:=hv
 refine ⟨A,c,h1,h2,?_⟩
 obtain ⟨q,hq,hob⟩:=hsim.live id _ ho
 cases q with
 | dead=>exact hob.elim
 | nil=>exact .inl ⟨hq,hob⟩
 | blk b =>
  obtain ⟨us,vs,h7,h8,h9,h10⟩:=hob
  obtain ⟨e2,k2,h11,h12,h13⟩:=h6 b hq
  have hee:e2=e:=by
   unfold World.shape? at h11
   rw [h7] at h11
   simp at h11
   exact h11.1.symm
  subst hee
  exact .inr ⟨b,us,vs,hq,h7,h8,h9,h10,h13⟩
theorem b8c{t t' e e':TypeId}{x y:Operand}{id lo n:Nat}{es src:List AV}(ht:Nat.blt t E.n=true)(hk:(E.ti t).k=.sl e)(he:Nat.blt e E.n=true)(hsz:Nat.beq (E.ti e).sz 1=true)
  (he':Nat.blt e' E.n=true) (hsz':Nat.beq (E.ti e').sz 1=true) (hx:ρ x=.own id lo n) (ho:H[id]?=some (some (.arr es e'))) (hle:lo+n<=es.length) (hs:a6O E H 1 (ρ y)=some src) (hone:a2R src)
  (h:K (.int .i64 (min n src.length:Nat)) (H.set id (some (.arr (spl es lo (src.take (min n src.length))) e')))) :
  a0z E ⟨d,.call ⟨.builtin .copy,#[x,y],#[t,t']⟩,ty,pos,after,g⟩ ρ H K:=by
 refine a1L (fun m w a hok hr hsim=>?_)
 have h1:=hr x
 rw [hx] at h1
 obtain ⟨A,c,h2,h3,hcase⟩:=a9v hsim ho h1
 obtain ⟨A2,c2,ws,h4,h5,h6,h7,h8⟩:=a7m hok hsim (hr y) hs
 have hsz1:E.cx.sz e'=1:=by
  obtain ⟨_,_,_,_,_,_,_,_,_,h⟩:=a0Q hok he'
  rw [h];exact Nat.eq_of_beq_eq_true hsz'
 have hsi:(E.P.info? e).map (·.size)=some 1:=by
  obtain ⟨i,_,q1,_,q2,_⟩:=a0Q hok he
  rw [q1];simp [q2,Nat.eq_of_beq_eq_true hsz]
 have hid:id<H.length:=(List.getElem?_eq_some_iff.1 ho).1
 rcases Nat.eq_zero_or_pos (min n src.length) with h0|h0
 ·refine ⟨.int .i64 ((0:Nat):Int),w,m,.int .i64 (min n src.length:Nat),H,?_,Ext.refl m w,by rw [h0];simp [Abs.Rel],hsim,?_⟩
  ·simp only [execOp,resolve,invoke,builtin,Sem.run_bind,Sem.run_pure,Result.andThen_ok,List.map_toArray,List.map_cons,List.map_nil,h2,h4]
   rw [run_copy_none w t t' ty e A A2 n c src.length c2 (a3z hok ht hk) hsi (by show min src.length n=0;omega)]
   rfl
  have e1:spl es lo (src.take (min n src.length))=es:=by
   rw [h0];simp [spl]
  rw [e1] at h
  have e2:H.set id (some (.arr es e'))=H:=by
   apply List.ext_getElem?
   intro j
   rw [List.getElem?_set]
   split
   ·rename_i hj;subst hj;first|rw [if_pos hid,ho]|rw [ho]
   ·rfl
  rw [e2] at h
  exact h
 rcases hcase with ⟨_,rfl⟩|⟨b,us,vs,q1,q2,q3,q4,q5,q6⟩
 ·simp at hle;omega
 have hA:=q6 (.inl (by omega))
 rw [hsz1,Nat.mul_one] at hA
 subst hA
 have hwl:=h6.length
 have hwt:∀u∈ws.take (min n src.length),u.cells.size=1:=fun u hu=>h7 u (List.mem_of_mem_take hu)
 have hfl:=a1k hwt
 rw [Nat.mul_one,List.length_take] at hfl
 have hfw:=a1k h7
 rw [Nat.mul_one] at hfw
 obtain ⟨a2,ha2,hc2⟩:=h8 (fun hn=>by rw [hn] at hfw;simp at hfw;omega)
 subst ha2
 have hft:flat (ws.take (min n src.length))=(flat ws).take (min n src.length):=by rw [a2B h7,Nat.mul_one]
 rw [hsz1] at q4
 have hfv:=a1k q4
 rw [Nat.mul_one] at hfv
 have hus:vs.length<=us.size:=by
  have h1:=congrArg List.length q5
  rw [List.length_take] at h1
  have h2:us.toList.length=us.size:=by simp
  omega
 have hvl:=q3.length
 have hrun:=run_copy_row (P:=E.P) w t t' ty e b lo n c a2 src.length c2 us e' (flat (ws.take (min n src.length))) (a3z hok ht hk) hsi q2 (by show _=min src.length n;rw [hfl,hwl];omega)
  (fun j v hj=>by
   rw [hft,List.getElem?_take] at hj
   split at hj
   ·exact hc2 j v hj
   ·cases hj) (by omega) (fun v hv=>hone.flat h6 v (by rw [hft] at hv;exact List.mem_of_mem_take hv))
 have hrel:E.RelL m w (src.take (min n src.length)) (ws.take (min n src.length)):=h6.take _
 obtain ⟨g1,g2⟩:=b7P (lo:=lo) hsim q1 q2 q3 (by rw [hsz1];exact q4) q5 hsz1 hrel hwt (by rw [List.length_take];omega)
 refine ⟨.int .i64 (min n src.length:Nat),_,m,.int .i64 (min n src.length:Nat),_,?_,g1,by simp [Abs.Rel],g2,h⟩
 simp only [execOp,resolve,invoke,builtin,Sem.run_bind,Sem.run_pure,Result.andThen_ok,List.map_toArray,List.map_cons,List.map_nil,h2,h4,hrun]
 have:(flat (ws.take (min n src.length))).length=min n src.length:=by rw [hfl,hwl];omega
 rw [this];rfl
end
end Go.Abs
namespace Go.Abs
open Go.MapKept
section
variable{E:Env}{ρ:Operand->AV}{H:Hp}{K:AV->Hp->Prop}
variable{d:Option Tmp}{ty:TypeId}{pos:String}{after:Array Edge}{g:Option (Nat × Bool)}
theorem a7O{m:Mu}{w:World}{id:Nat}{es:List (AV × AV)}{v:Value}(hsim:E.Sim m w H)(ho:H[id]?=some (some (.map es)))(hv:E.Rel m w (.mp id) v) :
  ∃b us clock,v=.map (some b)/\m[id]?=some (.blk b)/\w.heap[b]?=some (.map us clock)/\(∀e∈us,e.born<clock)/\(us.toList.map (·.born)).Nodup /\
   E.RelL m w (es.map (·.1)) (us.toList.map (·.key))/\E.RelL m w (es.map (·.2)) (us.toList.map (·.val)):=by
 simp only [Abs.Rel] at hv
 obtain ⟨r,h1,h2,h3⟩:=hv
 obtain ⟨q,hq,hob⟩:=hsim.live id _ ho
 cases q with
 | dead=>exact hob.elim
 | nil=>exact hob.elim
 | blk b =>
  obtain ⟨us,clock,h4,h5,h6,h7,h8⟩:=hob
  exact ⟨b,us,clock,by rw [h1,h3 b hq],hq,h4,h5,h6,h7,h8⟩
theorem map_set{m:Mu}{w:World}{id b clock clock':Nat}{us us':Array MapEntry}{es':List (AV × AV)}(hsim:E.Sim m w H)(hq:m[id]?=some (.blk b))(hb:w.heap[b]?=some (.map us clock))
  (h1:∀e∈us',e.born<clock') (h2:(us'.toList.map (·.born)).Nodup) (h3:E.RelL m w (es'.map (·.1)) (us'.toList.map (·.key))) (h4:E.RelL m w (es'.map (·.2)) (us'.toList.map (·.val))) :
  Ext m w m { w with heap:=w.heap.setIfInBounds b (.map us' clock') }/\E.Sim m { w with heap:=w.heap.setIfInBounds b (.map us' clock') } (H.set id (some (.map es'))):=by
 have hs:=heap_set (o':=.map us' clock') hb
 have hext:Ext m w m { w with heap:=w.heap.setIfInBounds b (.map us' clock') } :=
  Ext.owned (List.mem_of_getElem? hq) rfl rfl rfl (by simp) (fun c hc=>hs.2 c hc) (fun s h=>by
   unfold World.shape? at h ⊢
   rw [hb] at h
   cases h)
 exact ⟨hext,hsim.owned (ao:=.map es') hext hq (fun c hc=>hs.2 c hc) ⟨us',clock',hs.1,h1,h2,RelL.ext hext _ h3,RelL.ext hext _ h4⟩⟩
theorem b0S{t kt et:TypeId}{x:Operand}{id:Nat}{es:List (AV × AV)}(ht:Nat.blt t E.n=true)(hk:(E.ti t).k=.map kt et)(hx:ρ x=.mp id)(ho:H[id]?=some (some (.map es)))
  (h:K (.tup []) (H.set id (some (.map [])))):a0z E ⟨d,.call ⟨.builtin .clear,#[x],#[t]⟩,ty,pos,after,g⟩ ρ H K:=by
 refine a1L (fun m w a hok hr hsim=>?_)
 have h1:=hr x
 rw [hx] at h1
 obtain ⟨b,us,clock,h2,h3,h4,_⟩:=a7O hsim ho h1
 obtain ⟨g1,g2⟩:=map_set (es':=[]) (us':=#[]) (clock':=clock) hsim h3 h4 (by simp) (by simp) (by simp [Abs.RelL]) (by simp [Abs.RelL])
 refine ⟨.tuple #[],_,m,.tup [],_,?_,g1,by simp [Abs.Rel,Abs.RelL],g2,h⟩
 simp [execOp,resolve,invoke,builtin,Builtin.clear_,run_underlying (a6S hok ht hk),h2,Go.MapKept.run_getObj_map h4,Go.MapKept.run_setObj_map _ h4]
theorem b4Q{t kt et:TypeId}{x:Operand}{id:Nat}{es:List (AV × AV)}(ht:Nat.blt t E.n=true)(hk:(E.ti t).k=.map kt et)(hx:ρ x=.mp id)(ho:H[id]?=some (some (.map es)))
  (h:K (.int .i64 es.length) H):a0z E ⟨d,.call ⟨.builtin .len,#[x],#[t]⟩,ty,pos,after,g⟩ ρ H K:=by
 refine a0G _ (fun m w a hok hr hsim=>?_) h
 have h1:=hr x
 rw [hx] at h1
 obtain ⟨b,us,clock,h2,h3,h4,h5,h6,h7,h8⟩:=a7O hsim ho h1
 have hl:=h7.length
 simp only [List.length_map,Array.length_toList] at hl
 refine ⟨.int .i64 es.length,?_,by simp [Abs.Rel]⟩
 simp [execOp,resolve,invoke,builtin,Builtin.len_,run_underlying (a6S hok ht hk),h2,Go.MapKept.run_getObj_map h4,goInt,hl]
theorem a8L{t:TypeId}(h:K (.mp H.length) (H++[some (.map [])])):a0z E ⟨d,.makeMap t none,ty,pos,after,g⟩ ρ H K:=by
 refine a1L (fun m w a hok hr hsim=>?_)
 have hb:(w.alloc (.map #[] 0)).heap[w.heap.size]?=some (.map #[] 0):=(heap_alloc w _).1
 refine ⟨.map (some w.heap.size),w.alloc (.map #[] 0),m++[.blk w.heap.size],.mp H.length,_,by simp [execOp,RowKit.run_makeMap],Ext.push m w _,?_,hsim.push (ao:=.map []) ⟨#[],0,hb,by simp,by simp,by simp [Abs.RelL],by simp [Abs.RelL]⟩,h⟩
 simp only [Abs.Rel]
 refine ⟨w.heap.size,rfl,by rw [<- hsim.len];simp,fun b hb=>?_⟩
 rw [<- hsim.len] at hb
 simpa using hb
end
end Go.Abs
namespace Go.Abs
open Go.MapKept
section
variable{E:Env}{ρ:Operand->AV}{H:Hp}{K:AV->Hp->Prop}
variable{d:Option Tmp}{ty:TypeId}{pos:String}{after:Array Edge}{g:Option (Nat × Bool)}
theorem a5L{sz:Cx}{m:Mu}{w:World}{kk:IntKind}:∀{ns:List Int} {vs:List Value},RelL sz m w (ns.map (.int kk)) vs->vs=ns.map (.int kk)
 | [],_,h=>by simpa [RelL] using h
 | n::ns,_,h=>by
  simp only [List.map_cons,RelL] at h
  obtain ⟨u,r,rfl,h1,h2⟩:=h
  simp only [Rel] at h1
  rw [h1,a5L h2];rfl
theorem a9L{t kt et:TypeId}{kk:IntKind}{x i:Operand}{id:Nat}{es:List (AV × AV)}{ns:List Int}{n:Int}{j:Nat}{y:AV}{c:Bool}
  (ht:Nat.blt t E.n=true) (hk:(E.ti t).k=.map kt et) (hkt:Nat.blt kt E.n=true) (hkk:(E.ti kt).k=.int kk) (hx:ρ x=.mp id) (ho:H[id]?=some (some (.map es)))
  (hns:es.map (·.1)=ns.map (.int kk)) (hnd:ns.Nodup) (hi:ρ i=.int kk n) (hj:ns[j]?=some n) (hy:(es.map (·.2))[j]?=some y) (h:K (if c then .tup [y,.bool true] else y) H) :
  a0z E ⟨d,.lookup t x i c,ty,pos,after,g⟩ ρ H K:=by
 refine a0G _ (fun m w a hok hr hsim=>?_) h
 have h1:=hr x
 have hii:=hr i
 rw [hx] at h1
 rw [hi] at hii
 simp only [Abs.Rel] at hii
 obtain ⟨b,us,clock,h2,h3,h4,h5,h6,h7,h8⟩:=a7O hsim ho h1
 rw [hns] at h7
 have hkeys:=a5L h7
 have hd:=a5V hok hkt hkk
 have hik:∀x∈us.toList,IsKey (.int kk) x.key:=fun x hx=>by
  have:x.key∈us.toList.map (·.key):=List.mem_map_of_mem hx
  rw [hkeys] at this
  obtain ⟨q,_,hq⟩:=List.mem_map.1 this
  rw [<- hq];rfl
 have hkn:IsKey (.int kk) (.int kk n):=rfl
 rcases findNow_spec hkn us.toList 0 hik with ⟨_,f2⟩|⟨j',e,f1,f2,f3⟩
 ·exfalso
  have:(us.toList.map (·.key))[j]?=some (.int kk n):=by rw [hkeys,List.getElem?_map,hj];rfl
  rw [List.getElem?_map,Option.map_eq_some_iff] at this
  obtain ⟨e,he,hek⟩:=this
  exact f2 e (List.mem_of_getElem? he) hek
 have hjj:ns[j']?=some n:=by
  have:(us.toList.map (·.key))[j']?=some (.int kk n):=by rw [List.getElem?_map,f2,Option.map_some,f3]
  rw [hkeys,List.getElem?_map,Option.map_eq_some_iff] at this
  obtain ⟨q,hq,hqe⟩:=this
  cases hqe
  exact hq
 have:j'=j:=by
  obtain ⟨a1,a2⟩:=List.getElem?_eq_some_iff.1 hj
  obtain ⟨b1,b2⟩:=List.getElem?_eq_some_iff.1 hjj
  exact (List.getElem_inj hnd).1 (b2.trans a2.symm)
 subst this
 obtain ⟨u,hu,hru⟩:=h8.get j' hy
 rw [List.getElem?_map,f2,Option.map_some] at hu
 cases hu
 refine ⟨if c then .tuple #[e.val,.bool true] else e.val,?_,?_⟩
 ·simp [execOp,Instr.lookup,run_underlying (a6S hok ht hk),h2,Go.MapKept.run_getObj_map h4,hii,run_checkKey hd hkn,run_findKey hd f1]
 cases c with
 | false=>exact hru
 | true =>
  simp only [if_true,Abs.Rel]
  exact ⟨[e.val,.bool true],rfl,RelL.cons hru (RelL.cons (by simp [Abs.Rel]) (by simp [Abs.RelL]))⟩
theorem a8o{t kt et:TypeId}{kk:IntKind}{x i:Operand}{id:Nat}{es:List (AV × AV)}{ns:List Int}{n:Int}{z:List AV}{c:Bool}
  (ht:Nat.blt t E.n=true) (hk:(E.ti t).k=.map kt et) (hkt:Nat.blt kt E.n=true) (hkk:(E.ti kt).k=.int kk) (het:Nat.blt et E.n=true) (hz:(E.ti et).z=some z) (hz1:Nat.beq z.length 1=false)
  (hx:ρ x=.mp id) (ho:H[id]?=some (some (.map es)))
  (hns:es.map (·.1)=ns.map (.int kk)) (hi:ρ i=.int kk n) (hj:n ∉ ns) (h:K (if c then .tup [.agg z,.bool false] else .agg z) H) :
  a0z E ⟨d,.lookup t x i c,ty,pos,after,g⟩ ρ H K:=by
 refine a0G _ (fun m w a hok hr hsim=>?_) h
 have h1:=hr x
 have hii:=hr i
 rw [hx] at h1
 rw [hi] at hii
 simp only [Abs.Rel] at hii
 obtain ⟨b,us,clock,h2,h3,h4,h5,h6,h7,h8⟩:=a7O hsim ho h1
 rw [hns] at h7
 have hkeys:=a5L h7
 have hd:=a5V hok hkt hkk
 have hik:∀x∈us.toList,IsKey (.int kk) x.key:=fun x hx=>by
  have:x.key∈us.toList.map (·.key):=List.mem_map_of_mem hx
  rw [hkeys] at this
  obtain ⟨q,_,hq⟩:=List.mem_map.1 this
  rw [<- hq];rfl
 have hkn:IsKey (.int kk) (.int kk n):=rfl
 obtain ⟨v,v1,v2,_⟩:=a2G hok het hz
 have hvr:E.Rel m w (.agg z) v:=by
  have hlen:v.cells.size=z.length:=by
   have:=congrArg List.length v2
   simpa using this
  have hne:z.length≠1:=fun e=>by rw [e] at hz1;simp at hz1
  cases v with
  | agg cs =>
   simp only [Abs.Rel]
   refine ⟨cs.toList,by simp,?_⟩
   rw [<- v2]
   exact a3x _
  | _=>exact absurd hlen.symm hne
 rcases findNow_spec hkn us.toList 0 hik with ⟨f1,_⟩|⟨j',e,f1,f2,f3⟩
 ·refine ⟨if c then .tuple #[v,.bool false] else v,?_,?_⟩
  ·simp [execOp,Instr.lookup,run_underlying (a6S hok ht hk),h2,Go.MapKept.run_getObj_map h4,hii,run_checkKey hd hkn,run_findKey hd f1,v1]
  cases c with
  | false=>exact hvr
  | true =>
   simp only [if_true]
   show Abs.Rel _ _ _ _ _
   rw [Abs.Rel]
   exact ⟨[v,.bool false],rfl,RelL.cons hvr (RelL.cons (by simp [Abs.Rel]) (by simp [Abs.RelL]))⟩
 exfalso
 have:(us.toList.map (·.key))[j']?=some (.int kk n):=by rw [List.getElem?_map,f2,Option.map_some,f3]
 rw [hkeys,List.getElem?_map,Option.map_eq_some_iff] at this
 obtain ⟨q,hq,hqe⟩:=this
 cases hqe
 exact hj (List.mem_of_getElem? hq)
theorem a9O{t kt et:TypeId}{kk:IntKind}{x i y:Operand}{id:Nat}{es:List (AV × AV)}{ns:List Int}{n:Int}
  (ht:Nat.blt t E.n=true) (hk:(E.ti t).k=.map kt et) (hkt:Nat.blt kt E.n=true) (hkk:(E.ti kt).k=.int kk) (hx:ρ x=.mp id) (ho:H[id]?=some (some (.map es)))
  (hns:es.map (·.1)=ns.map (.int kk)) (hi:ρ i=.int kk n) (hj:n ∉ ns) (h:K (.tup []) (H.set id (some (.map (es++[(.int kk n,ρ y)]))))) :
  a0z E ⟨d,.mapUpdate t x i y,ty,pos,after,g⟩ ρ H K:=by
 refine step_skip (fun m w a hok hr hsim=>?_)
 have h1:=hr x
 have hii:=hr i
 have hy:=hr y
 rw [hx] at h1
 rw [hi] at hii
 simp only [Abs.Rel] at hii
 obtain ⟨b,us,clock,h2,h3,h4,h5,h6,h7,h8⟩:=a7O hsim ho h1
 have h7':=h7
 rw [hns] at h7
 have hkeys:=a5L h7
 have hd:=a5V hok hkt hkk
 have hik:∀x∈us.toList,IsKey (.int kk) x.key:=fun x hx=>by
  have:x.key∈us.toList.map (·.key):=List.mem_map_of_mem hx
  rw [hkeys] at this
  obtain ⟨q,_,hq⟩:=List.mem_map.1 this
  rw [<- hq];rfl
 have hkn:IsKey (.int kk) (.int kk n):=rfl
 rcases findNow_spec hkn us.toList 0 hik with ⟨f1,_⟩|⟨j',e,f1,f2,f3⟩
 ·obtain ⟨g1,g2⟩:=map_set (es':=es++[(.int kk n,ρ y)]) (us':=us.push { key:=.int kk n,val:=a.eval y,born:=clock }) (clock':=clock+1) hsim h3 h4
   (fun e he=>by
    rw [Array.mem_push] at he
    rcases he with he|rfl
    ·have:=h5 e he;omega
    ·show clock<clock+1;omega)
   (by
    simp only [Array.toList_push,List.map_append,List.map_cons,List.map_nil]
    rw [List.nodup_append]
    refine ⟨h6,by simp,fun p hp q hq e=>?_⟩
    simp only [List.mem_singleton] at hq
    subst hq
    obtain ⟨x,hx,hxe⟩:=List.mem_map.1 hp
    have:=h5 x (by simpa using hx)
    omega)
   (by simp only [List.map_append,List.map_cons,List.map_nil,Array.toList_push];exact h7'.append (RelL.cons (by simp [Abs.Rel]) (by simp [Abs.RelL])))
   (by simp only [List.map_append,List.map_cons,List.map_nil,Array.toList_push];exact h8.append (RelL.cons hy (by simp [Abs.RelL])))
  refine ⟨_,m,_,?_,g1,g2,h⟩
  simp [execOp,Instr.mapUpdate,run_underlying (a6S hok ht hk),h2,Go.MapKept.run_getObj_map h4,hii,run_checkKey hd hkn,run_findKey hd f1,Go.MapKept.run_setObj_map _ h4]
 exfalso
 have:(us.toList.map (·.key))[j']?=some (.int kk n):=by rw [List.getElem?_map,f2,Option.map_some,f3]
 rw [hkeys,List.getElem?_map,Option.map_eq_some_iff] at this
 obtain ⟨q,hq,hqe⟩:=this
 cases hqe
 exact hj (List.mem_of_getElem? hq)
end
end Go.Abs
namespace Go.Abs
section
variable{E:Env}{ρ:Operand->AV}{H:Hp}{K:AV->Hp->Prop}
variable{d:Option Tmp}{ty:TypeId}{pos:String}{after:Array Edge}{g:Option (Nat × Bool)}
theorem b0y{v:Value}(h:v.oneCell'=true):v.cells=#[v]:=by
 cases v<;>simp_all [Value.oneCell',Value.cells]
theorem a5z:∀{vs:List Value},(∀v∈vs,v.oneCell'=true)->flat vs=vs
 | [],_=>rfl
 | v::vs,h=>by
  have h1:=b0y (h v (by simp))
  have h2:=a5z (vs:=vs) fun u hu=>h u (by simp [hu])
  simp only [flat] at h2 ⊢
  rw [List.flatMap_cons,h1,h2];rfl
theorem b7p(z:AV):∀n,rep [z] n=List.replicate n z
 | 0=>rfl
 | n+1=>by simp [rep,b7p z n,List.replicate_succ]
theorem b0T{t e e':TypeId}{x:Operand}{id lo n:Nat}{es:List AV}{z:AV}(ht:Nat.blt t E.n=true)(hk:(E.ti t).k=.sl e)(he:Nat.blt e E.n=true)(hz:(E.ti e).z=some [z])(hz1:a5m z=true)
  (he':Nat.blt e' E.n=true) (hsz':Nat.beq (E.ti e').sz 1=true) (hx:ρ x=.own id lo n) (ho:H[id]?=some (some (.arr es e'))) (hle:lo+n<=es.length) (hn:0<n)
  (h:K (.tup []) (H.set id (some (.arr (spl es lo (List.replicate n z)) e')))) :
  a0z E ⟨d,.call ⟨.builtin .clear,#[x],#[t]⟩,ty,pos,after,g⟩ ρ H K:=by
 refine a1L (fun m w a hok hr hsim=>?_)
 have h1:=hr x
 rw [hx] at h1
 obtain ⟨A,c,h2,h3,hcase⟩:=a9v hsim ho h1
 have hsz1:E.cx.sz e'=1:=by
  obtain ⟨_,_,_,_,_,_,_,_,_,h⟩:=a0Q hok he'
  rw [h];exact Nat.eq_of_beq_eq_true hsz'
 rcases hcase with ⟨_,rfl⟩|⟨b,us,vs,q1,q2,q3,q4,q5,q6⟩
 ·simp at hle;omega
 have hA:=q6 (.inl (by omega))
 rw [hsz1,Nat.mul_one] at hA
 subst hA
 obtain ⟨v,v1,v2,_⟩:=a2G hok he hz
 have hvs:v.cells.size=1:=by
  have:=congrArg List.length v2
  simpa using this
 have hmr:=a2O (sz:=E.cx) (m:=m) (w:=w) v2 (by omega) n
 rw [b7p] at hmr
 have hone:∀u∈((Array.range (n*v.cells.size)).map (v.cells[· % v.cells.size]!)).toList,u.oneCell'=true:=a2w hmr (by simp [hz1])
 have hws:∀u∈((Array.range (n*v.cells.size)).map (v.cells[· % v.cells.size]!)).toList,u.cells.size=1:=fun u hu=>by rw [b0y (hone u hu)];rfl
 obtain ⟨g1,g2⟩:=b7P (lo:=lo) hsim q1 q2 q3 q4 q5 hsz1 hmr hws (by simpa using hle)
 rw [hsz1] at q4
 have hfv:=a1k q4
 rw [Nat.mul_one] at hfv
 have hvl:=q3.length
 have hus:vs.length<=us.size:=by
  have h1:=congrArg List.length q5
  rw [List.length_take] at h1
  have h2:us.toList.length=us.size:=by simp
  omega
 have hst:=run_storeCells_at E.P b lo e' _ 0 us w q2 (by rw [hmr.length];simp;omega) hone
 rw [a5z hone] at g1 g2
 refine ⟨.tuple #[],_,m,.tup [],_,?_,g1,by simp [Abs.Rel,Abs.RelL],g2,h⟩
 obtain ⟨n,rfl⟩:∃k,n=k+1:=⟨n - 1,by omega⟩
 simp only [Nat.add_zero] at hst
 simp [execOp,resolve,invoke,builtin,Builtin.clear_,run_underlying (a3z hok ht hk),h2,v1,Builtin.zeroCells] at hst ⊢
 simp [hst]
theorem b2q{t e e':TypeId}{x:Operand}{id lo n k:Nat}{es:List AV}(ht:Nat.blt t E.n=true)(hk:(E.ti t).k=.arr k e)(hx:ρ x=.own id lo n)(ho:H[id]?=some (some (.arr es e')))
  (hle:lo+n<=es.length) (hkn:k<=n) (hk0:0<k) (h:K (.pe id lo 0) H):a0z E ⟨d,.sliceToArrayPointer t x,ty,pos,after,g⟩ ρ H K:=by
 refine a0G _ (fun m w a hok hr hsim=>?_) h
 have h1:=hr x
 rw [hx] at h1
 obtain ⟨A,c,h2,h3,hcase⟩:=a9v hsim ho h1
 rcases hcase with ⟨_,rfl⟩|⟨b,us,vs,q1,q2,q3,q4,q5,q6⟩
 ·simp at hle;omega
 have hA:=q6 (.inl (by omega))
 refine ⟨.pointer A,?_,?_⟩
 ·have:¬ n<k:=by omega
  simp [execOp,Instr.arrayAt,run_underlying (c1h hok ht hk),h2,this]
 simp only [Abs.Rel]
 refine ⟨_,by rw [hA],(List.getElem?_eq_some_iff.1 q1).1,fun b' hb'=>?_⟩
 rw [q1] at hb'
 cases hb'
 exact ⟨e',us.size,by unfold World.shape?;rw [q2],by simp⟩
theorem b2n{t e e':TypeId}{x:Operand}{id i n:Nat}{es:List AV}(ht:Nat.blt t E.n=true)(hk:(E.ti t).k=.arr n e)(hst:Nat.beq (E.ti t).sz n=true)(hx:ρ x=.pe id i 0)(ho:H[id]?=some (some (.arr es e')))
  (he':Nat.blt e' E.n=true) (hsz':Nat.beq (E.ti e').sz 1=true) (hone:∀y∈es,a5m y=true) (hle:i+n<=es.length) (h:K (.agg ((es.drop i).take n)) H) :
  a0z E ⟨d,.load t x,ty,pos,after,g⟩ ρ H K:=by
 refine a0G _ (fun m w a hok hr hsim=>?_) h
 have h1:=hr x
 rw [hx] at h1
 simp only [Abs.Rel] at h1
 obtain ⟨ad,h2,h3,h4⟩:=h1
 have hsz1:E.cx.sz e'=1:=by
  obtain ⟨_,_,_,_,_,_,_,_,_,h⟩:=a0Q hok he'
  rw [h];exact Nat.eq_of_beq_eq_true hsz'
 obtain ⟨q,hq,hob⟩:=hsim.live id _ ho
 cases q with
 | dead=>exact hob.elim
 | nil =>
  subst hob
  simp at hle
  obtain ⟨rfl,rfl⟩:=hle
  refine ⟨.agg #[],?_,by simp [Abs.Rel,Abs.RelL]⟩
  obtain ⟨v,h5,h6⟩:=a9H (m:=m) (w:=w) (a:=ad) (cs:=[]) (us:=[]) (r:=.agg []) hok ht (by simp [ldA,hk,TK.agg,Nat.eq_of_beq_eq_true hst]) (by simp [Abs.RelL]) (by simp)
  simp only [Abs.Rel] at h6
  obtain ⟨us,rfl,h7⟩:=h6
  rw [a1l] at h7
  subst h7
  simp [execOp,h2,Instr.loadAt,Instr.sureAddr,h5]
 | blk b =>
  obtain ⟨us,vs,h6,h7,h8,h9⟩:=hob
  obtain ⟨e2,k2,h10,h11⟩:=h4 b hq
  have hee:e2=e':=by
   unfold World.shape? at h10
   rw [h6] at h10
   simp at h10
   exact h10.1.symm
  subst hee
  rw [hsz1,Nat.mul_one,Nat.add_zero] at h11
  subst h11
  have hov:∀v∈vs,v.oneCell'=true:=a2w h7 (by simpa [List.all_eq_true] using hone)
  rw [a5z hov] at h9
  have hvl:=h7.length
  obtain ⟨v,h12,h13⟩:=a9H (m:=m) (w:=w) (a:=⟨b,i,none⟩) (cs:=es.drop i) (us:=vs.drop i) (r:=.agg ((es.drop i).take n)) hok ht
   (by have:n<=es.length - i:=(by omega);simp [ldA,hk,TK.agg,Nat.eq_of_beq_eq_true hst,this]) (h7.drop i) (fun j u hu=>by
    have hadd:(⟨b,i,none⟩:Addr).add j=⟨b,i+j,none⟩:=by unfold Addr.add;split<;>simp_all
    rw [hadd,cell_of_row w b _ us e2 (0,0) h6]
    rw [List.getElem?_drop,<- h9,List.getElem?_take] at hu
    split at hu
    ·simpa using hu
    ·cases hu)
  exact ⟨v,by simp [execOp,h2,Instr.loadAt,Instr.sureAddr,h12],h13⟩
end
end Go.Abs
namespace Go.Abs
section
variable{E:Env}{ρ:Operand->AV}{H:Hp}{K:AV->Hp->Prop}
variable{d:Option Tmp}{ty:TypeId}{pos:String}{after:Array Edge}{g:Option (Nat × Bool)}
def u8A(b:UInt8):AV:=.int .u8 b.toNat
theorem b7l{sz:Cx}{m:Mu}{w:World}:∀l:List UInt8,RelL sz m w (l.map u8A) (l.map fun b=>Value.int .u8 b.toNat)
 | []=>by simp [RelL]
 | b::l=>RelL.cons (by simp [Rel,u8A]) (b7l l)
theorem c5k(l:List UInt8):∀v∈l.map (fun b=>Value.int .u8 b.toNat),v.oneCell'=true:=fun v hv=>by
 obtain ⟨b,_,rfl⟩:=List.mem_map.1 hv;rfl
theorem b8n(l:List UInt8):∀y∈l.map u8A,a5m y=true:=fun v hv=>by
 obtain ⟨b,_,rfl⟩:=List.mem_map.1 hv;rfl
theorem a1H(l:List UInt8):a0e 0 (l.map u8A):=a9j (fun _=>by simp [u8A,a0d]) l
theorem a0P(l:List UInt8):a2R (l.map u8A):=fun y hy=>by
 obtain ⟨b,_,rfl⟩:=List.mem_map.1 hy;exact ⟨rfl,rfl⟩
end
end Go.Abs
namespace Go.Abs
section
variable{E:Env}{ρ:Operand->AV}{H:Hp}{K:AV->Hp->Prop}
variable{d:Option Tmp}{ty:TypeId}{pos:String}{after:Array Edge}{g:Option (Nat × Bool)}
theorem b2m{x:Operand}{t t' e:TypeId}{k:Nat}{es:List AV}(ht:Nat.blt t E.n=true)(hk:(E.ti t).k=.sl e)(hx:ρ x=.sl k es)(hk0:0<k)
  (h1:es=[]->K (.bool true) H) (h2:K (.bool false) H):a0z E ⟨d,.binOp .eql t x (.const (.slice none 0 0)) t',ty,pos,after,g⟩ ρ H K:=by
 refine a1L (fun m w a hok hr hsim=>?_)
 have hxx:=hr x
 rw [hx] at hxx
 simp only [Abs.Rel] at hxx
 obtain ⟨A,c,vs,h3,h4,h5,h6,h7,h8⟩:=hxx
 have hrun:=Lib.run_eql_slice_nil (P:=E.P) w t e A es.length c 0 0 (a3z hok ht hk)
 refine ⟨.bool A.isNone,w,m,.bool A.isNone,H,?_,Ext.refl m w,by simp [Abs.Rel],hsim,?_⟩
 ·have hg:(eqGuard .eql t x (.const (.slice none 0 0)) (.slice A es.length c) (.slice none 0 0)).run E.P w=.ok () w:=by simp [eqGuard]
  have hev:a.eval (.const (.slice none 0 0))=.slice none 0 0:=rfl
  simp only [execOp,h3,hev,Sem.run_bind,hg,hrun,Result.andThen_ok,Sem.run_pure]
 cases A with
 | some ad=>exact h2
 | none =>
  refine h1 ?_
  rcases Nat.eq_zero_or_pos es.length with h0|h0
  ·exact List.eq_nil_of_length_eq_zero h0
  ·obtain ⟨ad,hA,_⟩:=b1A hk0 h0 h6 h7 h8
   cases hA
theorem b0U{x:Operand}{t t' e e':TypeId}{id lo n:Nat}{es:List AV}(ht:Nat.blt t E.n=true)(hk:(E.ti t).k=.sl e)(hx:ρ x=.own id lo n)(ho:H[id]?=some (some (.arr es e')))(hle:lo+n<=es.length)
  (h1:n=0->K (.bool true) H) (h2:K (.bool false) H):a0z E ⟨d,.binOp .eql t x (.const (.slice none 0 0)) t',ty,pos,after,g⟩ ρ H K:=by
 refine a1L (fun m w a hok hr hsim=>?_)
 have hxx:=hr x
 rw [hx] at hxx
 obtain ⟨A,c,h3,h4,hcase⟩:=a9v hsim ho hxx
 have hrun:=Lib.run_eql_slice_nil (P:=E.P) w t e A n c 0 0 (a3z hok ht hk)
 refine ⟨.bool A.isNone,w,m,.bool A.isNone,H,?_,Ext.refl m w,by simp [Abs.Rel],hsim,?_⟩
 ·have hg:(eqGuard .eql t x (.const (.slice none 0 0)) (.slice A n c) (.slice none 0 0)).run E.P w=.ok () w:=by simp [eqGuard]
  have hev:a.eval (.const (.slice none 0 0))=.slice none 0 0:=rfl
  simp only [execOp,h3,hev,Sem.run_bind,hg,hrun,Result.andThen_ok,Sem.run_pure]
 cases A with
 | some ad=>exact h2
 | none =>
  refine h1 ?_
  rcases hcase with ⟨_,rfl⟩|⟨b,us,vs,q1,q2,q3,q4,q5,q6⟩
  ·simp at hle;omega
  rcases Nat.eq_zero_or_pos n with h0|h0
  ·exact h0
  ·have:=q6 (.inl (by omega));cases this
theorem b2o{f:FuncId}{captured:List Operand}(h:K (.clo (.func f) [] (captured.map ρ)) H):a0z E ⟨d,.makeFunc (.func f) #[] captured.toArray,ty,pos,after,g⟩ ρ H K:=by
 refine a0G _ (fun m w a hok hr hsim=>?_) h
 refine ⟨.func (.func f) #[] (captured.map a.eval).toArray,?_,?_⟩
 ·simp [execOp,Instr.makeFunc]
 simp only [Abs.Rel]
 refine ⟨[],captured.map a.eval,by simp,by simp [Abs.RelL],?_⟩
 clear h
 induction captured with
 | nil=>simp [Abs.RelL]
 | cons c cs ih=>exact RelL.cons (hr c) ih
end
end Go.Abs
namespace Go.Abs
theorem b1L:∀n,nn n=some n
 | 0=>rfl
 | n+1=>by simp [nn,b1L n]
theorem c2h(x:AV):ns x=some x:=by
 cases x<;>simp [ns,b1L]
theorem b1K:∀l,nl l=some l
 | []=>rfl
 | x::l=>by simp [nl,c2h x,b1K l]
theorem c2i(x:AV):nv x=some x:=by
 cases x<;>simp [nv,b1K,b1L]
theorem c2g(o:Option AO):no o=some o:=by
 cases o with
 | none=>rfl
 | some o=>cases o<;>simp [no,b1K]
theorem b1J:∀H:Hp,nh H=some H
 | []=>rfl
 | o::H=>by simp [nh,c2g o,b1J H]
theorem nx0{k:AV->Hp->Prop}{r:AV}{H:Hp}(h:k r H):Nx k r H:=⟨r,H,c2i r,b1J H,h⟩
section
variable{E:Env}{ops:Array Oper}{ef so:List Nat}{K:St->Prop}{i:Nat}{rest:List Nat}{sl:List (Nat × AV)}{hp:Hp}
variable{op:Op}{ty:TypeId}{pos:String}{after:Array Edge}{g:Option (Nat × Bool)}
theorem b2R(hi:ops[i]?=some ⟨none,op,ty,pos,after,g⟩)(hw:a0H ops ⟨none,op,ty,pos,after,g⟩ sl=some true)(he:ef.contains i=true)
  (h:a0z E ⟨none,op,ty,pos,after,g⟩ (evF E (a4w ⟨none,op,ty,pos,after,g⟩) (get sl)) hp (Nx fun _ H'=>awM E ops ef so K rest ⟨sl,H'⟩)):awM E ops ef so K (i::rest) ⟨sl,hp⟩:=by
 simp only [awM,hi,hw,he,if_true]
 exact a1e h fun _ _ h=>b1O (k:=fun _ H'=>awM E ops ef so K rest ⟨sl,H'⟩) h
end
end Go.Abs
namespace Go.Abs
mutual
def scal:AV->Bool
 | .int _ _|.bool _|.str _|.nilp|.nils|.nilm|.nilf|.nili=>true
 | .agg cs=>b7N cs
 | .tup cs=>b7N cs
 | _=>false
def b7N:List AV->Bool
 | []=>true
 | x::xs=>scal x&&b7N xs
end
section
variable{sz sz2:Cx}{m m2:Mu}{w w2:World}
mutual
theorem Rel.scal:∀(x:AV) {v:Value},scal x=true->Rel sz m w x v->Rel sz2 m2 w2 x v
 | .int _ _,_,_,h|.bool _,_,_,h|.str _,_,_,h|.nilp,_,_,h|.nils,_,_,h|.nilm,_,_,h|.nilf,_,_,h|.nili,_,_,h=>by simpa [Rel] using h
 | .agg cs,_,hs,h=>by
  simp only [Rel] at h ⊢;simp only [Abs.scal] at hs
  obtain ⟨us,h1,h2⟩:=h
  exact ⟨us,h1,RelL.scal cs hs h2⟩
 | .tup cs,_,hs,h=>by
  simp only [Rel] at h ⊢;simp only [Abs.scal] at hs
  obtain ⟨us,h1,h2⟩:=h
  exact ⟨us,h1,RelL.scal cs hs h2⟩
 | .any,_,hs,_|.fp _,_,hs,_|.ptr _ _,_,hs,_|.pe _ _ _,_,hs,_|.sl _ _,_,hs,_|.own _ _ _,_,hs,_|.mp _,_,hs,_|.clo _ _ _,_,hs,_|.ifc _ _,_,hs,_|.gp _ _,_,hs,_=>by simp [Abs.scal] at hs
theorem RelL.scal:∀(xs:List AV) {vs:List Value},b7N xs=true->RelL sz m w xs vs->RelL sz2 m2 w2 xs vs
 | [],_,_,h=>by simpa [RelL] using h
 | x::xs,_,hs,h=>by
  simp only [RelL] at h ⊢;simp only [b7N,Bool.and_eq_true] at hs
  obtain ⟨u,r,h1,h2,h3⟩:=h
  exact ⟨u,r,h1,Rel.scal x hs.1 h2,RelL.scal xs hs.2 h3⟩
end
end
inductive Bor(E:Env)(H:Hp):List AV->List AV->Prop where
 | nil:Bor E H [] []
 | same {x:AV} {xs ys:List AV} (h:a0d 0 x) (t:Bor E H xs ys):Bor E H (x::xs) (x::ys)
 | sl {x:AV} {k:Nat} {es xs ys:List AV} (hi:a0e 0 es) (h:a6O E H k x=some es) (t:Bor E H xs ys):Bor E H (x::xs) (.sl k es::ys)
 | agg {cs ds xs ys:List AV} (h:Bor E H cs ds) (t:Bor E H xs ys):Bor E H (.agg cs::xs) (.agg ds::ys)
theorem c3i{E:Env}{H:Hp}{m:Mu}{w:World}{k:Nat}{x:AV}{es:List AV}{A:Option Addr}{n c:Nat}(hx:E.Rel m w x (.slice A n c))(h:a6O E H k x=some es):c<=maxLen:=by
 cases x with
 | nils=>simp only [Abs.Rel,Value.slice.injEq] at hx;omega
 | sl k' es' =>
  simp only [Abs.Rel,Value.slice.injEq] at hx
  obtain ⟨A',c',vs,⟨_,_,rfl⟩,_,h3,_⟩:=hx
  exact h3
 | own id lo n' =>
  simp only [Abs.Rel,Value.slice.injEq] at hx
  obtain ⟨A',c',⟨_,_,rfl⟩,_,h3,_⟩:=hx
  exact h3
 | _=>simp [a6O] at h
theorem Bor.rel{E:Env}{H:Hp}{m:Mu}{w:World}(hok:E.Ok)(hsim:E.Sim m w H):∀{xs ys:List AV},Bor E H xs ys->∀{vs:List Value},E.RelL m w xs vs->(E.wX fun _=>False).RelL [] w ys vs:=by
 intro xs ys hb
 induction hb with
 | nil=>intro vs h;simpa [Abs.RelL] using h
 | same h t ih =>
  intro vs hr
  obtain ⟨u,r,rfl,h1,h2⟩:=a0o.1 hr
  have hc:Cmp (fun _=>none) E.cx (E.wX fun _=>False).cx m []:=⟨rfl,fun _ _ h=>absurd h (by simp),fun b hb=>hb.elim (fun h=>absurd h (by simp)) (fun h=>h.elim)⟩
  exact RelL.cons (Rel.cmp hc (fun i h=>absurd h (Nat.not_lt_zero _)) _ h h1) (ih h2)
 | agg h t ih1 ih2 =>
  intro vs hr
  obtain ⟨u,r,rfl,h1,h2⟩:=a0o.1 hr
  simp only [Abs.Rel] at h1
  obtain ⟨us,rfl,h3⟩:=h1
  exact RelL.cons (by simp only [Abs.Rel];exact ⟨us,rfl,ih1 h3⟩) (ih2 h2)
 | @sl x k es xs ys hi h t ih =>
  intro vs hr
  obtain ⟨u,r,rfl,h1,h2⟩:=a0o.1 hr
  refine RelL.cons ?_ (ih h2)
  obtain ⟨A,c,ws,rfl,h4,h5,h6,h7⟩:=a7m hok hsim h1 h
  have hcap:=c3i h1 h
  have hc:Cmp (fun _=>none) E.cx (E.wX fun _=>False).cx m []:=⟨rfl,fun _ _ h=>absurd h (by simp),fun b hb=>hb.elim (fun h=>absurd h (by simp)) (fun h=>h.elim)⟩
  simp only [Abs.Rel]
  refine ⟨A,c,ws,rfl,h4,hcap,RelL.cmp hc (fun i h=>absurd h (Nat.not_lt_zero _)) _ hi h5,h6,fun hne=>?_⟩
  obtain ⟨a,ha,hcell⟩:=h7 hne
  refine ⟨a,ha,?_,by simp,fun hx=>hx,hcell⟩
  obtain ⟨u,hu⟩:∃u,(flat ws)[0]?=some u:=by
   cases hf:flat ws with
   | nil=>exact absurd hf hne
   | cons u r=>exact ⟨u,rfl⟩
  have h8:=hcell 0 u hu
  have h9:a.add 0=a:=by simp [Addr.add]
  rw [h9] at h8
  rcases Nat.lt_or_ge a.block w.heap.size with hl|hg
  ·exact hl
  unfold World.cell? at h8
  rw [Array.getElem?_eq_none hg] at h8
  cases h8
theorem a2K{E:Env}{f:FuncId}{args args':List AV}{r:AV}{H:Hp}(h:∀X,a0b (E.wX X) f args' [] (fun r' H'=>r'=r/\H'=[]))(hs:scal r=true)(hb:Bor E H args args') :
  a0b E f args H (fun r' H'=>r'=r/\H'=H):=by
 refine ⟨(h E.X).1,fun m w vs hok hglob hargs hsim=>?_⟩
 have hc:Cmp (fun _=>none) E.cx (E.wX fun _=>False).cx m []:=⟨rfl,fun _ _ h=>absurd h (by simp),fun b hb=>hb.elim (fun h=>absurd h (by simp)) (fun h=>h.elim)⟩
 have hsim0:(E.wX fun _=>False).Sim [] w []:=⟨rfl,fun _ _ h=>by simp at h,fun _ h=>by simp at h,fun _ _ _ h=>by simp at h,fun b hb=>hb.elim,fun b hb=>absurd hb (by simp)⟩
 refine ((h fun _=>False).2 [] w vs hok (fun g=>Rel.cmp hc (fun i h=>absurd h (Nat.not_lt_zero _)) _ (hok.2.2 g) (hglob g)) (hb.rel hok hsim hargs) hsim0).mono ?_
 rintro e w' ⟨v,m',r',H',he,hext,hr,hs',rfl,rfl⟩
 have hm':m'=[]:=List.eq_nil_of_length_eq_zero (by rw [hs'.len];rfl)
 subst hm'
 have hext2:Ext m w m w':=⟨hext.os,hext.tape,hext.output,hext.size,fun b hb _=>hext.keep b hb (by simp),fun _ _ h=>h,Nat.le_refl _,fun _ _ _ _ h=>h,hext.shape⟩
 exact ⟨v,m,r',H,he,hext2,Rel.scal _ hs hr,hsim.of_ext hext2 fun b hb=>hext.keep b (hsim.lt hb) (by simp),rfl,rfl⟩
end Go.Abs
namespace Go.Abs
def c6u:Op->Bool
 | .alloc _|.box ..|.insert ..|.store ..|.makeMap ..|.mapUpdate ..|.mapEntry ..|.entryStore ..|.range ..|.next ..|.entry _|.panic _|.makeSlice ..=>true
 | .call ⟨.builtin .append,_,_⟩=>true
 | .call ⟨.builtin .copy,_,_⟩=>true
 | .call ⟨.builtin .clear,_,_⟩=>true
 | .call ⟨.builtin .delete,_,_⟩=>true
 | .call ⟨.value _,_,_⟩=>true
 | _=>false
def efA:List Oper->Nat->List Nat
 | [],_=>[]
 | o::r,i=>cond (c6u o.op) (i::efA r (i+1)) (efA r (i+1))
def soB:Op->Bool
 | .move _|.assign _|.pick ..|.build ..|.nilCheck _|.binOp ..|.unOp ..|.convert ..|.fieldAddr ..|.field ..|.extract ..=>true
 | .call ⟨.builtin .len,_,_⟩|.call ⟨.builtin .min,_,_⟩|.call ⟨.builtin .max,_,_⟩=>true
 | _=>false
def soA:List Oper->Nat->List Nat
 | [],_=>[]
 | o::r,i=>cond (soB o.op) (i::soA r (i+1)) (soA r (i+1))
def a8A:Nat->Nat->List Nat
 | 0,_=>[]
 | n+1,i=>i::a8A n (i+1)
theorem b3w:∀n i,(a8A n i).length=n
 | 0,_=>rfl
 | n+1,i=>by simp [a8A,b3w n]
section
variable{E:Env}{N n0:Nat}{Q:Exit->St->Prop}{s:St}
theorem a0s{ι:Type}(σ:ι->St)(I:ι->Prop)(μ:ι->Nat)(i0:ι){c:Code}(hI:I i0)(h0:Imp E N n0 s (σ i0))
  (round:∀i,I i->AWp E N n0 c (a5W (fun s'=>∃j,I j/\μ j < μ i/\Imp E N n0 s' (σ j)) Q) (σ i)):AWp E N n0 (.loop c) Q s :=
 b8J (ι:={i // I i}) (fun i=>σ i.1) (fun i=>μ i.1) ⟨i0,hI⟩ h0 fun i=>a2L (round i.1 i.2) fun e s h=>by
  cases e with
  | normal=>obtain ⟨j,h1,h2,h3⟩:=h;exact ⟨⟨j,h1⟩,h2,h3⟩
  | _=>exact h
theorem a0x{n m:Int}(h:n=m)(h1:-9223372036854775808<=m)(h2:m<=9223372036854775807):IntKind.i64.wrap n=m:=by
 subst h;exact a0r h1 h2
@[simp] theorem a0h{α:Type}{n:Nat}{f:α->AV}{l:List α}(h:∀x,a0d n (f x)):a0e n (l.map f):=by
 induction l with
 | nil=>trivial
 | cons x l ih=>exact ⟨h x,ih⟩
@[simp] theorem a0k{n:Nat}{b:UInt8}:a0d n (u8A b):=trivial
theorem a0C{α:Type}{f:α->AV}{l:List α}{b:α}{j:Nat}{ρ:Operand->AV}{H:Hp}{K:AV->Hp->Prop}{d:Option Nat}{ty:TypeId}{pos:String}{after:Array Edge}{g:Option (Nat × Bool)}
  {x i:Operand} {t e:TypeId} {k:Nat} {kk:IntKind} {n:Int} (ha:l[j]?=some b) (ht:Nat.blt t E.n=true) (htk:(E.ti t).k=.sl e) (he:Nat.blt e E.n=true)
  (hx:ρ x=.sl k (l.map f)) (hi:ρ i=.int kk n) (hk:Nat.beq (E.ti e).sz k=true) (hk0:Nat.blt 0 k=true) (hn:n=(j:Int)) (hkn:known (f b)=true) (h:K (.fp (a0Z (f b))) H) :
  a0z E ⟨d,.indexAddr t x i,ty,pos,after,g⟩ ρ H K :=
 a8e ht htk he hx hi hk hk0 (by simp [ha]:(l.map f)[j]?=some (f b)) hn hkn h
theorem a4K{ρ:Operand->AV}{H:Hp}{K:AV->Hp->Prop}{d:Option Nat}{ty:TypeId}{pos:String}{after:Array Edge}{g:Option (Nat × Bool)}
  {t e:TypeId} {x:Operand} {id i:Nat} {es:List AV} {y r:AV} (hp:ρ x=.pe id i 0) (ho:H[id]?=some (some (.arr es e))) (hy:es[i]?=some y) (hkn:known y=true)
  (ht:Nat.blt t E.n=true) (hr:ldA (E.ti t) (a0Z y)=some r) (h:K r H):a0z E ⟨d,.load t x,ty,pos,after,g⟩ ρ H K :=
 a3t (cs:=a0Z y) (by rw [hp];simp [a2o,ho,hy,hkn]) ht hr h
theorem a0S{sl:List (Nat × AV)}{hp:Hp}(k:Nat)(ids:List Nat){sl':List (Nat × AV)}{os:List AO}{H':Hp}(hk:n0<=k)(hkl:k<=hp.length)(hnd:ids.Nodup)(hge:∀i∈ids,k<=i)(hpre:HOk k (hp.take k))
  (hlen:os.length=ids.length) (hH:hp.take k++os.map some=H') (hsl:∀p∈sl',Ren (gcF k ids) (get sl p.1) p.2) (hos:b8E hp (gcF k ids) ids os):Imp E N n0 ⟨sl,hp⟩ ⟨sl',H'⟩ :=
 hH ▸ b3f (E:=E) (N:=N) (n0:=n0) (s:=⟨sl,hp⟩) k ids sl' os hk hkl hnd hge hpre hsl hlen hos
theorem a0v{k:Nat}{ids:List Nat}{v v':AV}(h:v=v')(hi:a0d k v'):Ren (gcF k ids) v v':=by
 subst h;exact a7V k a2m hi
theorem a0j{sl sl':List (Nat × AV)}{hp H0:Hp}(k:Nat)(hk:n0<=k)(hok:HOk k H0)(hh:hp.take k=H0)(hl:k<=hp.length)(hsl:∀p∈sl',get sl p.1=p.2/\a0d k p.2):Imp E N n0 ⟨sl,hp⟩ ⟨sl',H0⟩ :=
 a0S k [] (os:=[]) hk hl (by simp) (by simp) (by rw [hh];exact hok) rfl (by rw [hh];simp) (fun p hp=>a0v (hsl p hp).1 (hsl p hp).2) a0T
theorem a2T{Q2:Exit->St->Prop}{s1:St}{c c2:Code}(h1:AWp E N n0 c (fun e s=>e=.normal/\Imp E N n0 s s1) s)(h2:AWp E N n0 c2 Q2 s1):AWp E N n0 c (a5W (AWp E N n0 c2 Q2) Q) s :=
 a2L h1 fun e s h=>by obtain ⟨rfl,hi⟩:=h;exact a0t hi h2
theorem c0B{i:Nat}(h:Q .normal s):a4M i Q .normal s:=h
end
end Go.Abs
namespace Go.Abs
def sh(s q n j:Nat):Nat:=if j<n then j+s else j+s+q
def a1T(f:Nat->Nat)(h:Hp):Hp:=h.map fun o=>o.map (rnO f)
theorem a8I{α:Type}:∀(a xs:List α) (L R:List α),xs.length=a.length->a1S (L++a++R) (List.range' L.length a.length) xs=L++xs++R
 | [],[],L,R,_=>by simp [a1S]
 | y::a,x::xs,L,R,h=>by
  have h1:List.range' L.length (y::a).length=L.length::List.range' (L.length+1) a.length:=by simp [List.range'_succ]
  rw [h1,a1S]
  have h2:(L++y::a++R).set L.length x=(L++[x])++a++R:=by
   rw [List.append_assoc,List.set_append_right _ _ (Nat.le_refl _),Nat.sub_self];simp
  have h3:L.length+1=(L++[x]).length:=by simp
  rw [h2,h3,a8I a xs (L++[x]) R (by simpa using h)]
  simp
 | [],_::_,_,_,h=>by simp at h
 | _::_,[],_,_,h=>by simp at h
theorem a8c{α:Type}:∀(is:List Nat) (l xs:List α),a1S l is xs=a1S l is (xs.take is.length)
 | [],l,xs=>by simp [a1S]
 | i::is,l,[]=>by simp
 | i::is,l,x::xs=>by simp only [List.length_cons,List.take_succ_cons,a1S];exact a8c is _ xs
theorem a0b.conv{E:Env}{fn:FuncId}{args args':List AV}{H H':Hp}{R R':AV->Hp->Prop}(h:a0b E fn args H R)(ha:args=args')(hH:H=H')(k:∀r H,R r H->R' r H):a0b E fn args' H' R':=by
 subst ha;subst hH;exact h.mono k
theorem a0b.frameLR{E:Env}{fn:FuncId}{args:List AV}{h:Hp}{P:AV->Hp->Prop}(hc:∀X,a0b (E.wX X) fn args h P)(L R:Hp)(hsome:∀j:Nat,h[j]?≠some none)(hargs:a0e h.length args)(hhok:HOk h.length h) :
  a0b E fn (rnL (sh L.length R.length h.length) args) (L++a1T (sh L.length R.length h.length) h++R)
   (fun r H'=>∃r0 h',P r0 h'/\h.length<=h'.length/\r=rnA (sh L.length R.length h.length) r0 /\
    H'=L++a1T (sh L.length R.length h.length) (h'.take h.length)++R++a1T (sh L.length R.length h.length) (h'.drop h.length)):=by
 let H:=L++a1T (sh L.length R.length h.length) h++R
 have hHl:H.length=L.length+h.length+R.length:=by simp [H,a1T];omega
 have hre:reN (List.range' L.length h.length) H.length=sh L.length R.length h.length:=by
  funext j
  unfold reN sh
  rw [hHl]
  split
  ·rename_i hlt;rw [List.getElem?_range' hlt];simp;omega
  ·rename_i hlt;rw [List.getElem?_eq_none (by simp;omega)];simp;omega
 have:=a0b.frame hc (List.range' L.length h.length) H List.nodup_range' (by simp) hsome (fun j i o hj ho=>by
  rw [hre]
  rcases Nat.lt_or_ge j h.length with hlt|hge
  ·rw [List.getElem?_range' hlt] at hj
   simp at hj
   subst hj
   show (L++a1T _ h++R)[_]?=_
   rw [List.append_assoc,List.getElem?_append_right (by omega),Nat.add_sub_cancel_left,List.getElem?_append_left (by simpa [a1T] using hlt)]
   simp [a1T,ho]
  ·rw [List.getElem?_eq_none (by simpa using hge)] at hj;cases hj) hargs hhok
 rw [hre] at this
 refine this.mono ?_
 rintro r H' ⟨r0,h',h1,h2,h3,h4⟩
 refine ⟨r0,h',h1,h2,h3,?_⟩
 rw [h4]
 unfold mrg
 rw [a8c]
 have e1:(List.range' L.length h.length).length=h.length:=by simp
 rw [e1]
 have e2:(List.map (fun o=>Option.map (rnO (sh L.length R.length h.length)) o) h').take h.length=a1T (sh L.length R.length h.length) (h'.take h.length):=by simp [a1T,List.map_take]
 have e3:(List.map (fun o=>Option.map (rnO (sh L.length R.length h.length)) o) h').drop h.length=a1T (sh L.length R.length h.length) (h'.drop h.length):=by simp [a1T,List.map_drop]
 rw [e2,e3]
 have e4:=a8I (a1T (sh L.length R.length h.length) h) (a1T (sh L.length R.length h.length) (h'.take h.length)) L R (by simp [a1T];omega)
 have e5:(a1T (sh L.length R.length h.length) h).length=h.length:=by simp [a1T]
 rw [e5] at e4
 show a1S H _ _++_=_
 rw [e4]
@[simp] theorem a1O{α:Type}{g:Nat->Nat}{f:α->AV}{l:List α}(h:∀x,rnA g (f x)=f x):rnL g (l.map f)=l.map f:=by
 induction l with
 | nil=>rfl
 | cons x l ih=>simp [rnL,h,ih]
theorem b3R{E:Env}{H:Hp}{id lo n k:Nat}{e:TypeId}{α:Type}{f:α->AV}{l:List α}(ho:H[id]?=some (some (.arr (l.map f) e)))(hsz:Nat.beq (E.ti e).sz k=true)(he:Nat.blt e E.n=true)(hn:lo+n<=l.length) :
  a6O E H k (.own id lo n)=some (((l.drop lo).take n).map f):=by
 simp only [a6O,ho]
 rw [if_pos ⟨Nat.eq_of_beq_eq_true hsz,he,by simpa using hn⟩]
 simp [List.map_take,List.map_drop]
theorem a0B{E:Env}{H:Hp}{id lo n k:Nat}{e:TypeId}{α:Type}{f:α->AV}{l:List α}{new:List AV}(ho:H[id]?=some (some (.arr (l.map f) e)))(hsz:Nat.beq (E.ti e).sz k=true)(he:Nat.blt e E.n=true)(hn:lo+n<=l.length)
  (hw:((l.drop lo).take n).map f=new):a6O E H k (.own id lo n)=some new:=hw ▸ b3R ho hsz he hn
end Go.Abs
namespace Go.Abs
def a5G(ops:Array Oper)(ef so:List Nat):List Nat->Array Bool->Bool
 | [],_=>true
 | i::rest,listed =>
  (if ef.contains i then Region.ready .any ops listed == [i]
   else (Region.ready .any ops listed).contains i&&Region.free .any ops listed i&&(so.contains i || ef.all fun j=>!(Nat.blt j ops.size) || listed.getD j false || a3w ops ops.size j i)) &&
  a5G ops ef so rest (listed.setIfInBounds i true)
def a5E:List Nat->Array Bool->Array Bool
 | [],l=>l
 | i::r,l=>a5E r (l.setIfInBounds i true)
def b1s(ops:Array Oper)(listed:Array Bool):Bool :=
 (List.range ops.size).all fun p=>!(listed.getD p false) || match ops[p]? with
  | some o=>o.after.toList.all fun e=>!(Region.binds .any e) || listed.getD e.on false
  | none=>true
theorem c1u{ops:Array Oper}{listed:Array Bool}(h:b1s ops listed=true):Down ops listed:=fun p o ho hl e he hb=>by
 have hp:p<ops.size:=(Array.getElem?_eq_some_iff.1 ho).1
 have h1:=List.all_eq_true.1 h p (by simpa using hp)
 simp only [hl,Bool.not_true,Bool.false_or,ho] at h1
 have h2:=List.all_eq_true.1 h1 e (by simpa using he)
 simpa [hb] using h2
section
variable{E:Env}{ops:Array Oper}{ef so:List Nat}{R:Sf->Hp->Prop}{fuel:Nat}
theorem a4X{i:Nat}{oi:Oper}{v:AV}(hi:ops[i]?=some oi)(hne:ef.contains i=false) :
  ∀(fuel:Nat) (listed:Array Bool) (σ:Sf) (H:Hp),(so.contains i=true\/∀j,ef.contains j=true->j<ops.size->listed.getD j false=true\/a3w ops ops.size j i=true)->Down ops listed ->
   (∀j oj,ops[j]?=some oj->j≠i->listed.getD j true=false->(∀e∈oj.after,Region.binds .any e=true->e.on≠i)->oi.apart ops oj=true) ->
   i∈Region.ready .any ops listed->a4g E ops so i oi v σ H ->
   anyM E ops ef so R fuel (listed.setIfInBounds i true) (upd oi.dst v σ) H->anyM E ops ef so R (fuel+1) listed σ H:=by
 intro fuel
 induction fuel with
 | zero =>
  intro listed σ H _ hdn _ hr hy h
  refine ⟨fun h0=>(by rw [h0] at hr;cases hr),fun j hj=>?_⟩
  by_cases hji:j=i
  ·subst hji;exact hy.mOp hi hne h
  ·have:=ready_mono hj hji
   rw [h.1] at this
   cases this
 | succ fuel ih =>
  intro listed σ H hwait hdn hfree hr hy h
  refine ⟨fun h0=>(by rw [h0] at hr;cases hr),fun j hj=>?_⟩
  by_cases hji:j=i
  ·subst hji;exact hy.mOp hi hne h
  have h1:=h.2 j (ready_mono hj hji)
  obtain ⟨hjun,oj,hoj,hall⟩:=mem_ready.1 hj
  have hiun:=(mem_ready.1 hr).1
  have hnl:listed.getD i false=false:=by
   rcases Nat.lt_or_ge i listed.size with h'|h'
   ·simpa [h'] using hiun
   ·simp [Array.getElem?_eq_none h']
  have hnj:listed.getD j false=false:=by
   rcases Nat.lt_or_ge j listed.size with h'|h'
   ·simpa [h'] using hjun
   ·simp [Array.getElem?_eq_none h']
  have hnot:∀e∈oj.after,Region.binds .any e=true->e.on≠i:=fun e he hb heq=>by
   have h1:=hall e he hb
   rw [heq,hnl] at h1;cases h1
  have hcond:ef.contains j=true->so.contains i=true:=fun he=>by
   rcases hwait with hw|hw
   ·exact hw
   rcases hw j he (Array.getElem?_eq_some_iff.1 hoj).1 with h9|h9
   ·rw [hnj] at h9;cases h9
   ·have:=a4q hdn _ j i oj hoj hall h9
    rw [hnl] at this;cases this
  have h2:=b6z hoj (hfree j oj hoj hji hjun hnot) hcond hy h1
  have hfree':∀k ok,ops[k]?=some ok->k≠i->(listed.setIfInBounds j true).getD k true=false ->
    (∀e∈ok.after,Region.binds .any e=true->e.on≠i)->oi.apart ops ok=true:=fun k ok hk hki hun hno=>by
   refine hfree k ok hk hki ?_ hno
   by_cases hjk:j=k
   ·subst hjk;exact hjun
   ·rw [getD_set_ne true hjk] at hun;exact hun
  have hwait':so.contains i=true\/∀k,ef.contains k=true->k<ops.size->(listed.setIfInBounds j true).getD k false=true\/a3w ops ops.size k i=true:=by
   rcases hwait with hw|hw
   ·exact .inl hw
   refine .inr fun k hk hlt=>?_
   rcases hw k hk hlt with h9|h9
   ·exact .inl (getD_set_true h9)
   ·exact .inr h9
  refine b3o (fun σ' H' h3=>ih (listed.setIfInBounds j true) σ' H' hwait' (a7a hdn hj) hfree' (ready_mono hr (Ne.symm hji)) h3.1 ?_) h2
  rw [Array.setIfInBounds_comm _ _ hji]
  exact h3.2
theorem b2B:∀(ord:List Nat) (listed:Array Bool) (s:St),a5G ops ef so ord listed=true->Down ops listed ->
  awM E ops ef so (fun s'=>anyM E ops ef so R fuel (a5E ord listed) (get s'.sl) s'.hp) ord s->anyM E ops ef so R (fuel+ord.length) listed (get s.sl) s.hp
 | [],listed,s,_,_,h=>by
  obtain ⟨sl',h1,h2⟩:=h
  rw [<- h1];exact h2
 | i::rest,listed,s,ho,hdn,h=>by
  simp only [a5G,Bool.and_eq_true] at ho
  obtain ⟨hc,ho⟩:=ho
  simp only [awM] at h
  cases hi:ops[i]? with
  | none=>rw [hi] at h;exact h.elim
  | some o =>
   rw [hi] at h
   simp only at h
   have next:∀(s':St),awM E ops ef so (fun s'=>anyM E ops ef so R fuel (a5E (i::rest) listed) (get s'.sl) s'.hp) rest s'->i∈Region.ready .any ops listed ->
     anyM E ops ef so R (fuel+rest.length) (listed.setIfInBounds i true) (get s'.sl) s'.hp:=fun s' h hr =>
    b2B rest _ s' ho (a7a hdn hr) h
   show anyM E ops ef so R (fuel+rest.length+1) listed (get s.sl) s.hp
   by_cases he:ef.contains i=true
   ·rw [if_pos he] at hc
    have hr:Region.ready .any ops listed=[i]:=by simpa using hc
    have hir:i∈Region.ready .any ops listed:=by rw [hr];simp
    refine ⟨fun h0=>(by rw [hr] at h0;cases h0),fun j hj=>?_⟩
    rw [hr] at hj
    simp only [List.mem_singleton] at hj
    subst hj
    unfold mOp
    simp only [hi]
    rw [a1G]
    cases hw:a0H ops o s.sl with
    | none=>rw [hw] at h;exact h.elim
    | some b =>
     rw [hw] at h
     cases b with
     | false =>
      have:=next _ h hir
      rw [a2t] at this
      exact this
     | true =>
      simp only [he,if_true] at h ⊢
      exact a1e h fun r H' hk=>by
       have:=next _ hk hir
       rw [a2t] at this
       exact this
   have he':ef.contains i=false:=by simpa using he
   rw [if_neg he] at hc
   simp only [Bool.and_eq_true,Bool.or_eq_true] at hc
   obtain ⟨⟨h1,h2⟩,h3⟩:=hc
   have hir:i∈Region.ready .any ops listed:=by simpa using h1
   have hwait:so.contains i=true\/∀j,ef.contains j=true->j<ops.size->listed.getD j false=true\/a3w ops ops.size j i=true:=by
    rcases h3 with h3|h3
    ·exact .inl h3
    refine .inr fun j hj hlt=>?_
    have:=List.all_eq_true.1 h3 j (by simpa using hj)
    have hb:Nat.blt j ops.size=true:=by simpa using hlt
    simpa [hb] using this
   cases hw:a0H ops o s.sl with
   | none=>rw [hw] at h;exact h.elim
   | some b =>
    rw [hw] at h
    cases b with
    | false =>
     have:=next _ h hir
     rw [a2t] at this
     exact a4X hi he' _ listed _ _ hwait hdn (Region.free_spec hi h2) hir (.inr ⟨by rw [a1G];exact hw,rfl⟩) this
    | true =>
     simp only [he',Bool.false_eq_true,if_false] at h
     split at h
     ·rename_i hs
      obtain ⟨v,h4,h5⟩:=h
      have:=next _ h5 hir
      rw [a2t] at this
      exact a4X hi he' _ listed _ _ hwait hdn (Region.free_spec hi h2) hir (.inl ⟨by rw [a1G];exact hw,by rw [if_pos hs];exact h4⟩) this
     rename_i hs
     obtain ⟨v,h4,h5⟩:=h
     have:=next _ h5 hir
     rw [a2t] at this
     exact a4X hi he' _ listed _ _ hwait hdn (Region.free_spec hi h2) hir (.inl ⟨by rw [a1G];exact hw,by rw [if_neg hs];exact h4⟩) this
theorem a0y(ord:List Nat){listed:Array Bool}{sl:List (Nat × AV)}{hp:Hp}{n:Nat}(hn:Nat.beq n (fuel+ord.length)=true)(ho:a5G ops ef so ord listed=true)(hd:b1s ops listed=true)
  (h:awM E ops ef so (fun s'=>anyM E ops ef so R fuel (a5E ord listed) (get s'.sl) s'.hp) ord ⟨sl,hp⟩):anyM E ops ef so R n listed (get sl) hp:=by
 rw [Nat.eq_of_beq_eq_true hn]
 exact b2B ord listed ⟨sl,hp⟩ ho (c1u hd) h
theorem a1R(is:List Nat){listed:Array Bool}{σ:Sf}{H:Hp}(hr:(Region.ready .any ops listed == is&&!is.isEmpty)=true)
  (h:∀i∈is,mOp E ops ef so i (anyM E ops ef so R fuel (listed.setIfInBounds i true)) σ H):anyM E ops ef so R (fuel+1) listed σ H:=by
 simp only [Bool.and_eq_true,beq_iff_eq,Bool.not_eq_true'] at hr
 refine ⟨fun h0=>?_,fun i hi=>h i (hr.1 ▸ hi)⟩
 rw [hr.1] at h0;rw [h0] at hr;simp at hr
theorem b1i{K:St->Prop}{listed:Array Bool}{sl:List (Nat × AV)}{hp:Hp}(hr:(Region.ready .any ops listed).isEmpty=true)(h:K ⟨sl,hp⟩):anyM E ops ef so (c3A K) 0 listed (get sl) hp :=
 ⟨by simpa using hr,sl,rfl,h⟩
theorem br1{P:Nat->Prop}{a:Nat}(h1:P a):∀i∈[a],P i:=fun i hi=>by
 simp only [List.mem_singleton] at hi;subst hi;exact h1
theorem br2{P:Nat->Prop}{a b:Nat}(h1:P a)(h2:P b):∀i∈[a,b],P i:=fun i hi=>by
 simp only [List.mem_cons,List.not_mem_nil,or_false] at hi
 rcases hi with rfl|rfl
 ·exact h1
 ·exact h2
variable{op:Op}{ty:TypeId}{pos:String}{after:Array Edge}{g:Option (Nat × Bool)}
theorem a1q{i d:Nat}{listed:Array Bool}{sl:List (Nat × AV)}{hp:Hp}(hi:ops[i]?=some ⟨some d,op,ty,pos,after,g⟩)(hw:a0H ops ⟨some d,op,ty,pos,after,g⟩ sl=some true)(he:ef.contains i=true)
  (h:a0z E ⟨some d,op,ty,pos,after,g⟩ (evF E (a4w ⟨some d,op,ty,pos,after,g⟩) (get sl)) hp (Nx fun r H'=>anyM E ops ef so R fuel listed (get ((d,r)::sl)) H')) :
  mOp E ops ef so i (anyM E ops ef so R fuel listed) (get sl) hp:=by
 unfold mOp
 simp only [hi]
 rw [a1G,hw]
 simp only [he,if_true]
 exact a1e h fun r H' hk=>by
  have h2:anyM E ops ef so R fuel listed (get ((d,r)::sl)) H':=b1O (k:=fun r H'=>anyM E ops ef so R fuel listed (get ((d,r)::sl)) H') hk
  have h3:get ((d,r)::sl)=upd (some d) r (get sl):=a2t (d:=some d)
  rw [<- h3];exact h2
end
section
variable{E:Env}{N n0:Nat}{Q:Exit->St->Prop}
theorem a0n{id:Nat}{l:List Oper}{sl:List (Nat × AV)}{hp:Hp}(ef so:List Nat)(hd:a2l N l=true)
  (h:anyM E l.toArray ef so (c3A (Q .normal)) l.length (Array.replicate l.length false) (get sl) hp):AWp E N n0 (.region id l.toArray true) Q ⟨sl,hp⟩:=by
 intro m0 w0 _ m w a he hs
 have hsF:a7q E N m { w with drawn:=w.drawn+1 } (get sl) hp a:=by
  have e:=Ext.drew m w
  exact ⟨hs.ok,fun k=>(hs.slots k).ext e,hs.size,hs.defers,hs.sim.drew,fun g=>(hs.glob g).ext e⟩
 refine wp_region_any hs.ok.1 ?_
 have h2:=a6b (Q':=b8C E N m0 w0 Q) (m0:=m0) (w0:=w0) (by simpa using hd) (fun m w σ H a he hs hR=>by
  obtain ⟨sl,rfl,hq⟩:=hR
  exact ⟨m,⟨sl,H⟩,he,⟨hs.ok,hs.slots,hs.size,hs.defers,hs.sim,hs.glob⟩,hq⟩) _ _ _ _ _ _ _ (he.trans (Ext.drew m w)) hsF h
 simpa using h2
theorem a0p{id:Nat}{l:List Oper}{sl:List (Nat × AV)}{hp:Hp}(ef so:List Nat)(hd:a2l N l=true)
  (hord:(a5G l.toArray ef so (a8A l.length 0) (Array.replicate l.length false)&&b1s l.toArray (Array.replicate l.length false)&&(Region.ready .any l.toArray (a5E (a8A l.length 0) (Array.replicate l.length false))).isEmpty)=true)
  (h:awM E l.toArray ef so (Q .normal) (a8A l.length 0) ⟨sl,hp⟩):AWp E N n0 (.region id l.toArray true) Q ⟨sl,hp⟩:=by
 simp only [Bool.and_eq_true] at hord
 refine a0n ef so hd (a0y (fuel:=0) (a8A l.length 0) (by rw [b3w,Nat.zero_add];exact Nat.beq_refl _) hord.1.1 hord.1.2 ?_)
 have mono:∀(ord:List Nat) (s:St),awM E l.toArray ef so (Q .normal) ord s->awM E l.toArray ef so (fun s'=>anyM E l.toArray ef so (c3A (Q .normal)) 0 (a5E (a8A l.length 0) (Array.replicate l.length false)) (get s'.sl) s'.hp) ord s:=by
  intro ord
  induction ord with
  | nil=>rintro s ⟨sl',h1,h2⟩;exact ⟨sl',h1,b1i hord.2 h2⟩
  | cons i rest ih =>
   intro s h
   simp only [awM] at h ⊢
   split
   ·rename_i h0;rw [h0] at h;exact h
   rename_i o h0
   rw [h0] at h
   simp only at h
   split
   ·rename_i h1;rw [h1] at h;exact h
   ·rename_i h1;rw [h1] at h;exact ih _ h
   rename_i h1
   rw [h1] at h
   simp only at h
   split
   ·rename_i h2;rw [if_pos h2] at h;exact a1e h fun _ _ h=>ih _ h
   rename_i h2
   rw [if_neg h2] at h
   split
   ·rename_i h3;rw [if_pos h3] at h;obtain ⟨v,h4,h5⟩:=h;exact ⟨v,h4,ih _ h5⟩
   ·rename_i h3;rw [if_neg h3] at h;obtain ⟨v,h4,h5⟩:=h;exact ⟨v,h4,ih _ h5⟩
 exact mono _ _ h
theorem a3S{id:Nat}{l:List Oper}{sl:List (Nat × AV)}{hp:Hp}(hd:a2l N l=true)
  (hord:(a5G l.toArray (efA l 0) (soA l 0) (a8A l.length 0) (Array.replicate l.length false)&&b1s l.toArray (Array.replicate l.length false)&&(Region.ready .any l.toArray (a5E (a8A l.length 0) (Array.replicate l.length false))).isEmpty)=true)
  (h:awM E l.toArray (efA l 0) (soA l 0) (Q .normal) (a8A l.length 0) ⟨sl,hp⟩):AWp E N n0 (.region id l.toArray true) Q ⟨sl,hp⟩:=a0p _ _ hd hord h
end
theorem nxs{k:AV->Hp->Prop}{r r2:AV}{H:Hp}(h1:nv r=some r2)(h:k r2 H):Nx k r H:=⟨r2,H,h1,b1J H,h⟩
section
variable{E:Env}{ops:Array Oper}{ef so:List Nat}{K:St->Prop}{i:Nat}{rest:List Nat}{sl:List (Nat × AV)}{hp:Hp}
variable{op:Op}{ty:TypeId}{pos:String}{after:Array Edge}{g:Option (Nat × Bool)}{d:Nat}
theorem a0O(hi:ops[i]?=some ⟨some d,op,ty,pos,after,g⟩)(hw:a0H ops ⟨some d,op,ty,pos,after,g⟩ sl=some true)(he:ef.contains i=false)(hs:so.contains i=true)
  {v:AV} (h:∀H,a0z E ⟨some d,op,ty,pos,after,g⟩ (evF E (a4w ⟨some d,op,ty,pos,after,g⟩) (get sl)) H (Nx fun r H'=>r=v/\H'=H)) (h2:awM E ops ef so K rest ⟨(d,v)::sl,hp⟩):awM E ops ef so K (i::rest) ⟨sl,hp⟩ :=
 c5F hi hw he hs (fun H=>a1e (h H) fun _ _ h=>b1O (k:=fun r H'=>r=v/\H'=H) h) h2
end
theorem b3T{E:Env}{H:Hp}{K:AV->Hp->Prop}{ρ:Operand->AV}{d:Option Nat}{ty:TypeId}{pos:String}{after:Array Edge}{g:Option (Nat × Bool)}
  {t e:TypeId} {x y:Operand} {z:List AV} {kl kc:IntKind} {nl nc:Int} {n:Nat} {el:AV} (hel:c2j z (E.ti e).k.agg=el) (hnl:nl=(n:Int)) (hnc:nc=(n:Int)) (hb:(E.ti e).bt*n<=281474976710656) (hm:n<=maxLen)
  (ht:Nat.blt t E.n=true) (hk:(E.ti t).k=.sl e) (he:Nat.blt e E.n=true) (hz:(E.ti e).z=some z)
  (hzl:Nat.beq z.length (E.ti e).sz=true) (hz0:Nat.blt 0 (E.ti e).sz=true) (hag:(E.ti e).k.agg=true\/Nat.beq (E.ti e).sz 1=true) (hone:(E.ti e).k.agg=true\/z.all a5m=true) (hx:ρ x=.int kl nl) (hy:ρ y=.int kc nc)
  (h:K (.own H.length 0 n) (H++[some (.arr (List.replicate n el) e)])):a0z E ⟨d,.makeSlice t x y,ty,pos,after,g⟩ ρ H K :=
 b2p ht hk he hz hzl hz0 hag hone hx hy hnl hnc (Nat.le_refl _) hb hm (by rw [hel];exact h)
theorem c1d{E:Env}{H:Hp}{K:AV->Hp->Prop}{ρ:Operand->AV}{d:Option Nat}{ty:TypeId}{pos:String}{after:Array Edge}{g:Option (Nat × Bool)}
  {t e:TypeId} {x y:Operand} {z:List AV} {kl kc:IntKind} {nl nc:Int} {n k:Nat} {el:AV} (hel:c2j z (E.ti e).k.agg=el) (hk9:(E.ti e).sz=k) (hnl:nl=(n:Int)) (hnc:nc=(n:Int)) (hb:(E.ti e).bt*n<=281474976710656) (hm:n<=maxLen)
  (ht:Nat.blt t E.n=true) (hk:(E.ti t).k=.sl e) (he:Nat.blt e E.n=true) (hz:(E.ti e).z=some z)
  (hzl:Nat.beq z.length (E.ti e).sz=true) (hz0:Nat.blt 0 (E.ti e).sz=true) (hag:(E.ti e).k.agg=true\/Nat.beq (E.ti e).sz 1=true) (hone:(E.ti e).k.agg=true\/z.all a5m=true) (hx:ρ x=.int kl nl) (hy:ρ y=.int kc nc)
  (h:K (.sl k (List.replicate n el)) H):a0z E ⟨d,.makeSlice t x y,ty,pos,after,g⟩ ρ H K :=
 b8e ht hk he hz hzl hz0 hag hone hx hy hnl hnc hb hm (by rw [hel,hk9];exact h)
@[simp] theorem c5u{n k:Nat}{x:AV}(h:a0d n x):a0e n (List.replicate k x):=by
 induction k with
 | zero=>trivial
 | succ k ih=>exact ⟨h,ih⟩
theorem a8r{E:Env}{ops:Array Oper}{o:Oper}{rest:List Oper}{K:St->Prop}{sl:List (Nat × AV)}{hp:Hp}(_:a0H ops o sl=some true)(h:a1p E ops (o::rest) K ⟨sl,hp⟩):a1p E ops (o::rest) K ⟨sl,hp⟩:=h
theorem b0a{E:Env}{ops:Array Oper}{ef so:List Nat}{i:Nat}{o:Oper}{rest:List Nat}{K:St->Prop}{sl:List (Nat × AV)}{hp:Hp}(_:ops[i]?=some o)(_:a0H ops o sl=some true)(h:awM E ops ef so K (i::rest) ⟨sl,hp⟩):awM E ops ef so K (i::rest) ⟨sl,hp⟩:=h
end Go.Abs
namespace Go.Abs
def nz:Int->Bool
 | .ofNat 0=>false
 | _=>true
theorem c4u{b:Int}(h:nz b=true):b≠0:=by
 rintro rfl
 cases h
def ikB:IntKind->IntKind->Bool
 | .i64,.i64=>true
 | a,b=>decide (a=b)
theorem b3e{a b:IntKind}(h:ikB a b=true):a=b:=by
 unfold ikB at h
 split at h
 ·rfl
 ·exact of_decide_eq_true h
def stP(E:Env)(ρ:Operand->AV)(H:Hp):Op->Option AV
 | .move x=>some (ρ x)
 | .assign x=>some (ρ x)
 | .pick c x y=>c2s (ρ c) (ρ x) (ρ y)
 | .load t x=>match a2o H (ρ x) with
  | some cs=>cond (Nat.blt t E.n) (ldA (E.ti t) cs) none
  | none=>none
 | .nilCheck x=>cond (notNil (ρ x)) (some (ρ x)) none
 | .binOp op t x y _=>match c5q op (ρ x) (ρ y) with
  | some r=>some r
  | none=>match op with
   | .eql=>cond (Nat.blt t E.n&&a3P (ρ x)) (match eqA E 8 t (ρ x) (ρ y) with
    | some b=>some (.bool b)
    | none=>none) none
   | .neq=>cond (Nat.blt t E.n&&a3P (ρ x)) (match eqA E 8 t (ρ x) (ρ y) with
    | some b=>some (.bool (!b))
    | none=>none) none
   | .quo=>match ρ x,ρ y with
    | .int k a,.int j b=>cond (ikB k j&&nz b) (some (.int k (k.wrap (a.tdiv b)))) none
    | _,_=>none
   | .rem=>match ρ x,ρ y with
    | .int k a,.int j b=>cond (ikB k j&&nz b) (some (.int k (a.tmod b))) none
    | _,_=>none
   | _=>none
 | .buildSlice t len parts=>match (E.ti t).k with
  | .sl e=>match (E.ti e).z with
   | some z=>cond (Nat.blt t E.n&&Nat.blt e E.n&&Nat.beq z.length (E.ti e).sz&&Nat.blt 0 (E.ti e).sz&&Nat.ble (len*(E.ti e).sz) 16777216&&((E.ti e).k.agg || Nat.beq (E.ti e).sz 1))
     (match a4j (a5k (E.ti e).sz) ρ parts.toList (rep z len) with
      | some cs=>cond ((E.ti e).k.agg || cs.all a5m) (match nn (E.ti e).sz,n2 (a3Z (E.ti e).k.agg (E.ti e).sz len cs) with
       | some k,some es=>some (.sl k es)
       | _,_=>none) none
      | none=>none) none
   | none=>none
  | _=>none
 | .unOp op _ x=>unA op (ρ x)
 | .convert t u x=>match ρ x with
  | .int _ n=>cond (Nat.blt t E.n&&Nat.blt u E.n) (match (E.ti u).k with
   | .int j=>some (.int j (j.wrap n))
   | _=>none) none
  | _=>none
 | .makeFunc (.func f) first cap=>match first.toList with
  | []=>some (.clo (.func f) [] (cap.toList.map ρ))
  | _=>none
 | .field t x i=>match ρ x with
  | .agg cs=>match a4F (E.ti t) i with
   | some p=>cond (Nat.blt t E.n&&Nat.blt p.2 E.n) (b4z (E.ti p.2) cs p.1) none
   | none=>none
  | _=>none
 | .fieldAddr t x i=>match a4F (E.ti t) i with
  | some p=>cond (Nat.blt t E.n&&Nat.blt p.2 E.n&&!(Nat.beq (E.ti p.2).sz 0)) (a5S p.1 (ρ x)) none
  | none=>none
 | .extract x i=>match ρ x with
  | .tup vs=>vs[i]?
  | _=>none
 | .build t parts=>match (E.ti t).k with
  | .struct fs=>match (E.ti t).z with
   | some z=>cond (Nat.blt t E.n&&fs.all fun p=>Nat.blt p.2 E.n) (match a4j (placesOf E fs) ρ parts.toList z with
    | some out=>match n2 out with
     | some es=>some (.agg es)
     | none=>none
    | none=>none) none
   | none=>none
  | _=>none
 | .call ⟨.builtin .len,args,tys⟩=>match args.toList,tys.toList with
  | [x],[t]=>cond (Nat.blt t E.n) (match (E.ti t).k with
   | .sl _=>match c5w (ρ x) with
    | some n=>some (.int .i64 n)
    | none=>none
   | .str=>match ρ x with
    | .str l=>some (.int .i64 l.length)
    | _=>none
   | .map _ _=>match ρ x with
    | .mp id=>match H[id]? with
     | some (some (.map es))=>some (.int .i64 es.length)
     | _=>none
    | _=>none
   | _=>none) none
  | _,_=>none
 | .call ⟨.builtin .min,args,tys⟩=>match args.toList,tys.toList with
  | [x,y],[_,_]=>match ρ x,ρ y with
   | .int k a,.int j b=>cond (ikB k j) (some (.int k (min a b))) none
   | _,_=>none
  | _,_=>none
 | .call ⟨.builtin .max,args,tys⟩=>match args.toList,tys.toList with
  | [x,y],[_,_]=>match ρ x,ρ y with
   | .int k a,.int j b=>cond (ikB k j) (some (.int k (max a b))) none
   | _,_=>none
  | _,_=>none
 | _=>none
def stX(E:Env)(ρ:Operand->AV)(H:Hp):Op->Option (AV × Hp)
 | .alloc e=>match (E.ti e).z with
  | some z=>cond (Nat.blt e E.n) (some (.ptr H.length 0,H++[some (.cells z e)])) none
  | none=>none
 | .box e x=>cond (known (ρ x)) (some (.ptr H.length 0,H++[some (.cells (a0Z (ρ x)) e)])) none
 | .store t p x=>match ρ p with
  | .ptr id off=>match H[id]? with
   | some (some (.cells cs e))=>cond (Nat.blt t E.n&&Nat.beq (a0Z (ρ x)).length (E.ti t).sz&&(a0Z (ρ x)).all a5m&&known (ρ x)&&Nat.ble (off+(a0Z (ρ x)).length) cs.length)
     (some (.tup [],H.set id (some (.cells (spl cs off (a0Z (ρ x))) e)))) none
   | _=>none
  | _=>none
 | .makeMap _ none=>some (.mp H.length,H++[some (.map [])])
 | _=>none
section
variable{E:Env}{N n0:Nat}{ρ:Operand->AV}{H:Hp}{K:AV->Hp->Prop}
variable{d:Option Tmp}{ty:TypeId}{pos:String}{after:Array Edge}{g:Option (Nat × Bool)}
theorem toA{α:Type}(a:Array α){l:List α}(h:a.toList=l):a=l.toArray:=by rw [<- h]
theorem a3g{o:Op}{r:AV}(h:stP E ρ H o=some r)(hK:K r H):a0z E ⟨d,o,ty,pos,after,g⟩ ρ H K:=by
 unfold stP at h
 split at h
 ·cases h;exact a9M hK
 ·cases h;exact a5T hK
 ·exact a9N h hK
 ·split at h
  ·rename_i cs hc
   cases ht:Nat.blt _ E.n with
   | true=>rw [ht] at h;exact a3t hc ht h hK
   | false=>rw [ht] at h;cases h
  ·cases h
 ·rename_i x
  cases hn:notNil (ρ x) with
  | true=>rw [hn] at h;cases h;exact a3R hn hK
  | false=>rw [hn] at h;cases h
 ·split at h
  ·rename_i hb;cases h;exact b7Y hb hK
  split at h
  ·cases hc:(Nat.blt _ E.n&&a3P _) with
   | true =>
    rw [hc] at h
    simp only [Bool.and_eq_true] at hc
    simp only [cond_true] at h
    split at h
    ·rename_i he;cases h;exact b8d hc.1 hc.2 he hK
    ·cases h
   | false=>rw [hc] at h;cases h
  ·cases hc:(Nat.blt _ E.n&&a3P _) with
   | true =>
    rw [hc] at h
    simp only [Bool.and_eq_true] at hc
    simp only [cond_true] at h
    split at h
    ·rename_i he;cases h;exact c5g hc.1 hc.2 he hK
    ·cases h
   | false=>rw [hc] at h;cases h
  ·split at h
   ·rename_i k a j b hx hy
    cases hc:(ikB k j&&nz b) with
    | true =>
     rw [hc] at h
     simp only [Bool.and_eq_true] at hc
     obtain rfl:=b3e hc.1
     cases h
     exact b8g hx hy (c4u hc.2) hK
    | false=>rw [hc] at h;cases h
   ·cases h
  ·split at h
   ·rename_i k a j b hx hy
    cases hc:(ikB k j&&nz b) with
    | true =>
     rw [hc] at h
     simp only [Bool.and_eq_true] at hc
     obtain rfl:=b3e hc.1
     cases h
     exact b0V hx hy (c4u hc.2) hK
    | false=>rw [hc] at h;cases h
   ·cases h
  ·cases h
 ·rename_i t len parts
  split at h
  ·rename_i e hk
   split at h
   ·rename_i z hz
    cases hc:(Nat.blt t E.n&&Nat.blt e E.n&&Nat.beq z.length (E.ti e).sz&&Nat.blt 0 (E.ti e).sz&&Nat.ble (len*(E.ti e).sz) 16777216&&((E.ti e).k.agg || Nat.beq (E.ti e).sz 1)) with
    | true =>
     rw [hc] at h
     simp only [Bool.and_eq_true,Bool.or_eq_true] at hc
     simp only [cond_true] at h
     split at h
     ·rename_i cs hf
      cases hd:((E.ti e).k.agg || cs.all a5m) with
      | true =>
       rw [hd] at h
       simp only [Bool.or_eq_true] at hd
       simp only [cond_true] at h
       split at h
       ·rename_i hs hv;cases h;exact b8b hc.1.1.1.1.1 hk hc.1.1.1.1.2 hz hc.1.1.1.2 hc.1.1.2 hc.1.2 hc.2 hf hd hs hv hK
       ·cases h
      | false=>rw [hd] at h;cases h
     ·cases h
    | false=>rw [hc] at h;cases h
   ·cases h
  ·cases h
 ·exact c3j h hK
 ·split at h
  ·rename_i hx
   cases hc:(Nat.blt _ E.n&&Nat.blt _ E.n) with
   | true =>
    rw [hc] at h
    simp only [Bool.and_eq_true] at hc
    simp only [cond_true] at h
    split at h
    ·rename_i hk;cases h;exact b2l hx hc.1 hc.2 hk hK
    ·cases h
   | false=>rw [hc] at h;cases h
  ·cases h
 ·split at h
  ·rename_i first cap _ hf
   cases h
   rw [toA first hf,toA cap rfl]
   exact b2o hK
  ·cases h
 ·split at h
  ·rename_i hx
   split at h
   ·rename_i p hp
    cases hc:(Nat.blt _ E.n&&Nat.blt p.2 E.n) with
    | true =>
     rw [hc] at h
     simp only [Bool.and_eq_true] at hc
     exact c0f hx hc.1 hp hc.2 h hK
    | false=>rw [hc] at h;cases h
   ·cases h
  ·cases h
 ·split at h
  ·rename_i p hp
   cases hc:(Nat.blt _ E.n&&Nat.blt p.2 E.n&&!(Nat.beq (E.ti p.2).sz 0)) with
   | true =>
    rw [hc] at h
    simp only [Bool.and_eq_true,Bool.not_eq_true'] at hc
    exact a3l hc.1.1 hp hc.1.2 hc.2 h hK
   | false=>rw [hc] at h;cases h
  ·cases h
 ·split at h
  ·rename_i hx;exact a4J hx h hK
  ·cases h
 ·split at h
  ·rename_i fs hk
   split at h
   ·rename_i z hz
    cases hc:(Nat.blt _ E.n&&fs.all fun p=>Nat.blt p.2 E.n) with
    | true =>
     rw [hc] at h
     simp only [Bool.and_eq_true] at hc
     simp only [cond_true] at h
     split at h
     ·rename_i out ho
      split at h
      ·rename_i es he;cases h;exact b7Z hc.1 hk hz hc.2 ho he hK
      ·cases h
     ·cases h
    | false=>rw [hc] at h;cases h
   ·cases h
  ·cases h
 ·split at h
  ·rename_i args tys _ _ x t ha hty
   rw [toA args ha,toA tys hty]
   cases hc:Nat.blt t E.n with
   | true =>
    rw [hc] at h
    simp only [cond_true] at h
    split at h
    ·rename_i e hk
     split at h
     ·rename_i n hn;cases h;exact a8f hc hk hn hK
     ·cases h
    ·rename_i hk
     split at h
     ·rename_i l hl;cases h;exact b4R hc hk hl hK
     ·cases h
    ·rename_i hk
     split at h
     ·rename_i id hx
      split at h
      ·rename_i es ho;cases h;exact b4Q hc hk hx ho hK
      ·cases h
     ·cases h
    ·cases h
   | false=>rw [hc] at h;cases h
  ·cases h
 ·split at h
  ·rename_i args tys _ _ x y t1 t2 ha hty
   rw [toA args ha,toA tys hty]
   split at h
   ·rename_i k a j b hx hy
    cases hc:ikB k j with
    | true=>obtain rfl:=b3e hc;rw [hc] at h;cases h;exact b8f hx hy hK
    | false=>rw [hc] at h;cases h
   ·cases h
  ·cases h
 ·split at h
  ·rename_i args tys _ _ x y t1 t2 ha hty
   rw [toA args ha,toA tys hty]
   split at h
   ·rename_i k a j b hx hy
    cases hc:ikB k j with
    | true=>obtain rfl:=b3e hc;rw [hc] at h;cases h;exact c5f hx hy hK
    | false=>rw [hc] at h;cases h
   ·cases h
  ·cases h
 ·cases h
theorem b7X{o:Op}{r:AV}{H':Hp}(h:stX E ρ H o=some (r,H'))(hK:K r H'):a0z E ⟨d,o,ty,pos,after,g⟩ ρ H K:=by
 unfold stX at h
 split at h
 ·split at h
  ·rename_i z hz
   cases hc:Nat.blt _ E.n with
   | true=>rw [hc] at h;cases h;exact a1C hc hz hK
   | false=>rw [hc] at h;cases h
  ·cases h
 ·rename_i x
  cases hc:known (ρ x) with
  | true=>rw [hc] at h;cases h;exact b8a hc hK
  | false=>rw [hc] at h;cases h
 ·split at h
  ·rename_i t p x _ id off hp
   split at h
   ·rename_i cs e ho
    cases hc:(Nat.blt t E.n&&Nat.beq (a0Z (ρ x)).length (E.ti t).sz&&(a0Z (ρ x)).all a5m&&known (ρ x)&&Nat.ble (off+(a0Z (ρ x)).length) cs.length) with
    | true =>
     rw [hc] at h
     simp only [Bool.and_eq_true] at hc
     cases h
     exact a3n hc.1.1.1.1 hp ho hc.1.1.1.2 hc.1.1.2 hc.1.2 hc.2 hK
    | false=>rw [hc] at h;cases h
   ·cases h
  ·cases h
 ·cases h
  exact a8L hK
 ·cases h
theorem b1n{x:AV}{cs:List AV}(h:a2o [] x=some cs):a2o H x=some cs:=by
 cases x with
 | fp=>exact h
 | _=>simp [a2o] at h
theorem b3S{o:Op}{r:AV}(h:stP E ρ [] o=some r):stP E ρ H o=some r:=by
 unfold stP at h ⊢
 split at h
 all_goals first
  | exact h
  | skip
 ·split at h
  ·rename_i cs hc;rw [b1n hc];exact h
  ·cases h
 split at h
 ·rename_i t _ _
  cases hc:Nat.blt t E.n with
  | true =>
   rw [hc] at h
   simp only [cond_true] at h ⊢
   split at h
   ·exact h
   ·exact h
   ·split at h
    ·simp at h
    ·cases h
   ·cases h
  | false=>rw [hc] at h;cases h
 ·cases h
def vP(E:Env)(ρ:Operand->AV)(H:Hp)(o:Op):Option (AV × Hp) :=
 match stX E ρ H o with
 | some p=>match nv p.1,nh p.2 with
  | some r,some H2=>some (r,H2)
  | _,_=>none
 | none=>match stP E ρ H o with
  | some r=>match nv r with
   | some r2=>some (r2,H)
   | none=>none
  | none=>none
def vL(E:Env)(ρ:Operand->AV)(H:Hp)(o:Op):Option (AV × Hp) :=
 match stX E ρ H o with
 | some p=>some p
 | none=>match stP E ρ H o with
  | some r=>some (r,H)
  | none=>none
theorem c7G{o:Op}{r:AV}{H':Hp}(h:vL E ρ H o=some (r,H'))(hK:K r H'):a0z E ⟨d,o,ty,pos,after,g⟩ ρ H K:=by
 unfold vL at h
 split at h
 ·rename_i p hp;cases h;exact b7X hp hK
 split at h
 ·rename_i r hr;cases h;exact a3g hr hK
 ·cases h
theorem a7o{o:Op}{r:AV}{H':Hp}(h:vP E ρ H o=some (r,H'))(hK:K r H'):a0z E ⟨d,o,ty,pos,after,g⟩ ρ H K:=by
 unfold vP at h
 split at h
 ·rename_i p hp
  split at h
  ·rename_i h1 h2
   cases h
   rw [<- a6q h1,<- b1I h2] at hK
   exact b7X hp hK
  ·cases h
 split at h
 ·rename_i r hr
  split at h
  ·rename_i h1
   cases h
   rw [<- a6q h1] at hK
   exact a3g hr hK
  ·cases h
 ·cases h
end
section
variable{E:Env}{ops:Array Oper}{K:St->Prop}{sl sl':List (Nat × AV)}{hp hp':Hp}
def pD(o:Oper)(sl:List (Nat × AV)):Option (AV × Hp)->Option (List (Nat × AV) × Hp)
 | some (r,H)=>match o.dst with
  | some d=>some ((d,r)::sl,H)
  | none=>some (sl,H)
 | none=>none
def skD(o:Oper)(sl:List (Nat × AV))(hp:Hp):Option (List (Nat × AV) × Hp):=pD o sl (some (.tup [],hp))
theorem a7P{o:Oper}{p:Option (AV × Hp)}(h:pD o sl p=some (sl',hp')):∃r,p=some (r,hp')/\sl'=put o.dst r sl:=by
 unfold pD at h
 split at h
 ·split at h
  ·rename_i hd;cases h;exact ⟨_,rfl,by rw [hd];rfl⟩
  ·rename_i hd;cases h;exact ⟨_,rfl,by rw [hd];rfl⟩
 ·cases h
def b4d(E:Env)(ops:Array Oper)(l:List Oper)(K:St->Prop)(s:St):Prop:=match l with
 | []=>K s
 | _=>a1p E ops l K s
theorem a6X{l:List Oper}{s:St}(h:b4d E ops l K s):a1p E ops l K s:=by
 cases l with
 | nil=>exact a4y h
 | cons=>exact h
def c5p(E:Env)(ops:Array Oper)(ef so:List Nat)(K:St->Prop)(l:List Nat)(s:St):Prop:=match l with
 | []=>K s
 | _=>awM E ops ef so K l s
theorem b1j{ef so l:List Nat}{s:St}(h:c5p E ops ef so K l s):awM E ops ef so K l s:=by
 cases l with
 | nil=>exact b0n h
 | cons=>exact h
theorem Zh{s:St}(h:K s):b4d E ops [] K s:=h
theorem Zk{ef so:List Nat}{s:St}(h:K s):c5p E ops ef so K [] s:=h
def vW(E:Env)(ops:Array Oper)(o:Oper)(sl:List (Nat × AV))(hp:Hp):Option (List (Nat × AV) × Hp) :=
 match a0H ops o sl with
 | some true=>pD o sl (vP E (ev E sl) hp o.op)
 | some false=>skD o sl hp
 | none=>none
def vWL(E:Env)(ops:Array Oper)(o:Oper)(sl:List (Nat × AV))(hp:Hp):Option (List (Nat × AV) × Hp) :=
 match a0H ops o sl with
 | some true=>pD o sl (vL E (ev E sl) hp o.op)
 | _=>none
theorem Zs{o:Oper}{rest:List Oper}(h:vW E ops o sl hp=some (sl',hp'))(k:b4d E ops rest K ⟨sl',hp'⟩):a1p E ops (o::rest) K ⟨sl,hp⟩:=by
 replace k:=a6X k
 unfold vW at h
 split at h
 ·rename_i hw
  obtain ⟨r,h1,rfl⟩:=a7P h
  exact a1U hw (a7o h1 k)
 ·rename_i hw
  obtain ⟨r,h1,rfl⟩:=a7P h
  cases h1
  exact a5n hw k
 ·cases h
theorem Zt{o:Oper}{rest:List Oper}(h:vWL E ops o sl hp=some (sl',hp'))(k:b4d E ops rest K ⟨sl',hp'⟩):a1p E ops (o::rest) K ⟨sl,hp⟩:=by
 replace k:=a6X k
 unfold vWL at h
 split at h
 ·rename_i hw
  obtain ⟨r,h1,rfl⟩:=a7P h
  exact a1U hw (c7G h1 k)
 ·cases h
def vD(E:Env)(ops:Array Oper)(ef so:List Nat)(i:Nat)(sl:List (Nat × AV))(hp:Hp):Option (List (Nat × AV) × Hp) :=
 match ops[i]? with
 | some o=>match a0H ops o sl with
  | some true=>cond (ef.contains i) (pD o sl (vP E (evF E (a4w o) (get sl)) hp o.op)) (match stP E (evF E (a4w o) (get sl)) (cond (so.contains i) [] hp) o.op with
   | some r=>match nv r with
    | some r2=>pD o sl (some (r2,hp))
    | none=>none
   | none=>none)
  | some false=>skD o sl hp
  | none=>none
 | none=>none
theorem Zd{ef so:List Nat}{i:Nat}{rest:List Nat}(h:vD E ops ef so i sl hp=some (sl',hp'))(k:c5p E ops ef so K rest ⟨sl',hp'⟩):awM E ops ef so K (i::rest) ⟨sl,hp⟩:=by
 replace k:=b1j k
 unfold vD at h
 split at h
 ·rename_i o ho
  split at h
  ·rename_i hw
   cases he:ef.contains i with
   | true =>
    rw [he] at h
    obtain ⟨r,h1,rfl⟩:=a7P h
    simp only [awM,ho,hw,he,if_true]
    exact a7o h1 k
   | false =>
    rw [he] at h
    simp only [cond_false] at h
    split at h
    ·rename_i r hr
     split at h
     ·rename_i r2 h2
      obtain ⟨r3,h1,rfl⟩:=a7P h
      cases h1
      obtain rfl:=a6q h2
      cases hs:so.contains i with
      | true =>
       rw [hs] at hr
       simp only [awM,ho,hw,he,hs,Bool.false_eq_true,if_false,if_true]
       exact ⟨_,fun H=>a3g (b3S hr) ⟨rfl,rfl⟩,k⟩
      | false =>
       rw [hs] at hr
       simp only [awM,ho,hw,he,hs,Bool.false_eq_true,if_false]
       exact ⟨_,a3g hr ⟨rfl,rfl⟩,k⟩
     ·cases h
    ·cases h
  ·rename_i hw
   obtain ⟨r,h1,rfl⟩:=a7P h
   cases h1
   simp only [awM,ho,hw]
   exact k
  ·cases h
 ·cases h
end
section
variable{E:Env}{N n0:Nat}{Q:Exit->St->Prop}{s:St}
def vC(E:Env)(N n0:Nat)(Q:Exit->St->Prop)(s:St):Code->Option Prop
 | .seq a b=>some (AWp E N n0 a (a5W (AWp E N n0 b Q) Q) s)
 | .skip=>some (Q .normal s)
 | .region _ l false=>cond (a2l N l.toList) (some (a1p E l l.toList (Q .normal) s)) none
 | .block id c=>some (AWp E N n0 c (a4M id Q) s)
 | .exit id=>some (Q (.exit id) s)
 | .cond c x y=>match ev E s.sl c with
  | .bool b=>match b with
   | true=>some (AWp E N n0 x Q s)
   | false=>some (AWp E N n0 y Q s)
  | _=>none
 | _=>none
theorem Zc{c:Code}{G:Prop}(h:vC E N n0 Q s c=some G)(k:G):AWp E N n0 c Q s:=by
 unfold vC at h
 split at h
 ·cases h;exact a0u k
 ·cases h;exact a1t k
 ·rename_i id l
  cases hd:a2l N l.toList with
  | true=>rw [hd] at h;cases h;exact a0m (l:=l.toList) hd k
  | false=>rw [hd] at h;cases h
 ·cases h;exact a3u k
 ·cases h;exact b2F k
 ·split at h
  ·rename_i hb
   split at h
   ·cases h;exact a1j hb k
   ·cases h;exact a1v hb k
  ·cases h
 ·cases h
end
def Pur(E:Env)(f:FuncId)(args:List AV)(r:AV):Prop:=a0e 0 args/\∀X,a0b (E.wX X) f args [] (fun r' H'=>r'=r/\H'=[])
section
variable{E:Env}{ops:Array Oper}{K:St->Prop}{sl:List (Nat × AV)}{hp hp' h2:Hp}{d:Nat}{ty:TypeId}{pos:String}{after:Array Edge}{g:Option (Nat × Bool)}
variable{f:Operand}{args:List Operand}{tys:Array TypeId}{k:FuncId}{cap as:List AV}{r r2:AV}
theorem Zp{rest:List Oper}(hw:a0H ops ⟨some d,.call ⟨.value f,args.toArray,tys⟩,ty,pos,after,g⟩ sl=some true)(hf:ev E sl f=.clo (.func k) [] cap)(hc:Pur E k as r)(ha:args.map (ev E sl)++cap=as)
  (h:b4d E ops rest K ⟨(d,r)::sl,hp⟩):a1p E ops (⟨some d,.call ⟨.value f,args.toArray,tys⟩,ty,pos,after,g⟩::rest) K ⟨sl,hp⟩:=by
 subst ha
 refine a1U hw (a1c (fun _=>rfl) hf ((a0f hc.2 hc.1 hp).mono ?_))
 rintro _ _ ⟨rfl,rfl⟩
 exact a6X h
theorem Zf{rest:List Oper}(hw:a0H ops ⟨some d,.call ⟨.value f,args.toArray,tys⟩,ty,pos,after,g⟩ sl=some true)(hf:ev E sl f=.clo (.func k) [] cap)(hc:a0b E k as hp fun r' H'=>r'=r/\H'=hp')(ha:args.map (ev E sl)++cap=as)
  (hn:nv r=some r2) (hh:nh hp'=some h2) (h:b4d E ops rest K ⟨(d,r2)::sl,h2⟩):a1p E ops (⟨some d,.call ⟨.value f,args.toArray,tys⟩,ty,pos,after,g⟩::rest) K ⟨sl,hp⟩:=by
 subst ha
 refine a1U hw (a1c (fun _=>rfl) hf (hc.mono ?_))
 rintro _ _ ⟨rfl,rfl⟩
 rw [a6q hn,b1I hh]
 exact a6X h
theorem Zq{ef so:List Nat}{i:Nat}{rest:List Nat}(hi:ops[i]?=some ⟨some d,.call ⟨.value f,args.toArray,tys⟩,ty,pos,after,g⟩)(hw:a0H ops ⟨some d,.call ⟨.value f,args.toArray,tys⟩,ty,pos,after,g⟩ sl=some true)(he:ef.contains i=false)
  (hf:evF E (a4w ⟨some d,.call ⟨.value f,args.toArray,tys⟩,ty,pos,after,g⟩) (get sl) f=.clo (.func k) [] cap) (hc:Pur E k as r) (ha:args.map (evF E (a4w ⟨some d,.call ⟨.value f,args.toArray,tys⟩,ty,pos,after,g⟩) (get sl))++cap=as)
  (h:c5p E ops ef so K rest ⟨(d,r)::sl,hp⟩):awM E ops ef so K (i::rest) ⟨sl,hp⟩:=by
 subst ha
 have key:∀H,a0z E ⟨some d,.call ⟨.value f,args.toArray,tys⟩,ty,pos,after,g⟩ (evF E (a4w ⟨some d,.call ⟨.value f,args.toArray,tys⟩,ty,pos,after,g⟩) (get sl)) H fun r' H'=>r'=r/\H'=H:=fun H=>a1c (fun _=>rfl) hf (a0f hc.2 hc.1 H)
 simp only [awM,hi,hw,he,Bool.false_eq_true,if_false]
 split
 ·exact ⟨r,key,b1j h⟩
 ·exact ⟨r,key _,b1j h⟩
theorem Z0{N:Nat}{fn:Func}{c:Code}{R:AV → Hp → Prop}(hf:E.P.funcs[k]?=some fn)(hb:fn.body=some c)(hn:fn.ntmps=N)(hname:(fn.name == "runtime.NumGoroutine")=false)(hl:Nat.ble as.length N=true)
  (h:AWp E N hp.length c (b1g E fn.results.toList R) ⟨slots 0 as,hp⟩):a0b E k as hp R:=a9Z hf hb hn hname hl fun _ _=>h
end
end Go.Abs
namespace Go.Abs
end Go.Abs
namespace Go.Abs
theorem Q0:type_of% @a9M:=@a9M
theorem Q1:type_of% @a5T:=@a5T
theorem Q2:type_of% @b7Y:=@b7Y
theorem Q3:type_of% @a3t:=@a3t
theorem Q4:type_of% @a3l:=@a3l
theorem Q5:type_of% @a9N:=@a9N
theorem Q6:type_of% @a3R:=@a3R
theorem Q7:type_of% @a8f:=@a8f
theorem QA:type_of% @b8g:=@b8g
theorem QB:type_of% @b0V:=@b0V
theorem QC:type_of% @a4J:=@a4J
theorem QD:type_of% @c3j:=@c3j
theorem QE:type_of% @b8f:=@b8f
theorem QG:type_of% @b2l:=@b2l
theorem QH:type_of% @b8d:=@b8d
theorem QJ:type_of% @a1C:=@a1C
theorem QK:type_of% @b8a:=@b8a
theorem QP:type_of% @b7Z:=@b7Z
theorem QQ{E:Env}{H:Hp}{K:AV->Hp->Prop}{ρ:Operand->AV}{d:Option Nat}{ty:TypeId}{pos:String}{after:Array Edge}{g:Option (Nat × Bool)}
  {t e:TypeId} {len k:Nat} {parts:Array (Nat × Operand)} {z cs es:List AV} (ht:Nat.blt t E.n=true) (hk:(E.ti t).k=.sl e) (he:Nat.blt e E.n=true) (hz:(E.ti e).z=some z)
  (hzl:Nat.beq z.length (E.ti e).sz=true) (hz0:Nat.blt 0 (E.ti e).sz=true) (hlim:Nat.ble (len*(E.ti e).sz) 16777216=true) (hag:(E.ti e).k.agg=true)
  (hf:a4j (a5k (E.ti e).sz) ρ parts.toList (rep z len)=some cs)
  (hsz:nn (E.ti e).sz=some k) (hav:n2 (a3Z (E.ti e).k.agg (E.ti e).sz len cs)=some es) (h:K (.sl k es) H) :
  a0z E ⟨d,.buildSlice t len parts,ty,pos,after,g⟩ ρ H K:=b8b ht hk he hz hzl hz0 hlim (.inl hag) hf (.inl hag) hsz hav h
theorem QR{E:Env}{H:Hp}{K:AV->Hp->Prop}{ρ:Operand->AV}{d:Option Nat}{ty:TypeId}{pos:String}{after:Array Edge}{g:Option (Nat × Bool)}
  {t e:TypeId} {len k:Nat} {parts:Array (Nat × Operand)} {z cs es:List AV} (ht:Nat.blt t E.n=true) (hk:(E.ti t).k=.sl e) (he:Nat.blt e E.n=true) (hz:(E.ti e).z=some z)
  (hzl:Nat.beq z.length (E.ti e).sz=true) (hz0:Nat.blt 0 (E.ti e).sz=true) (hlim:Nat.ble (len*(E.ti e).sz) 16777216=true) (hag:Nat.beq (E.ti e).sz 1=true)
  (hf:a4j (a5k (E.ti e).sz) ρ parts.toList (rep z len)=some cs) (hone:cs.all a5m=true)
  (hsz:nn (E.ti e).sz=some k) (hav:n2 (a3Z (E.ti e).k.agg (E.ti e).sz len cs)=some es) (h:K (.sl k es) H) :
  a0z E ⟨d,.buildSlice t len parts,ty,pos,after,g⟩ ρ H K:=b8b ht hk he hz hzl hz0 hlim (.inr hag) hf (.inr hone) hsz hav h
theorem QS:type_of% @a3n:=@a3n
theorem Qa:type_of% @bs:=@bs
theorem Qb:type_of% @bs0:=@bs0
theorem Qc:type_of% @a1E:=@a1E
theorem Qd:type_of% @ds:=@ds
theorem Qe:type_of% @a0O:=@a0O
theorem Qf:type_of% @b2R:=@b2R
theorem Qh:type_of% @a4y:=@a4y
theorem Qi:type_of% @c3G:=@c3G
theorem Qk:type_of% @b0n:=@b0n
theorem Ql:type_of% @a0u:=@a0u
theorem Qm:type_of% @a1t:=@a1t
theorem Qn:type_of% @a3u:=@a3u
theorem Qo:type_of% @a0m:=@a0m
theorem Qp:type_of% @a1j:=@a1j
theorem Qq:type_of% @a1v:=@a1v
theorem Qs:type_of% @a2j:=@a2j
theorem Qt:type_of% @c1g:=@c1g
theorem Qu:type_of% @c0B:=@c0B
theorem Qv:type_of% @c3F:=@c3F
theorem Qw:type_of% @b1i:=@b1i
theorem Qx:type_of% @a3S:=@a3S
theorem Qy:type_of% @c0A:=@c0A
theorem Qz:type_of% @b1m:=@b1m
theorem QT:type_of% @b2S:=@b2S
theorem QU:type_of% @a7z:=@a7z
theorem QV:type_of% @a8r:=@a8r
theorem QW:type_of% @b0a:=@b0a
theorem QX:type_of% @nx:=@nx
theorem QY:type_of% @nxs:=@nxs
theorem QZ:type_of% @nx0:=@nx0
theorem Ck{E:Env}{H:Hp}{K:AV->Hp->Prop}{ρ:Operand->AV}{d:Option Nat}{ty:TypeId}{pos:String}{after:Array Edge}{g:Option (Nat × Bool)}{f:Operand}{args:List Operand}{tys:Array TypeId}{k:FuncId}{cap:List AV}{r:AV}{h:Hp}(hG:∀g,ρ (.global g)=E.G g)(hf:ρ f=.clo (.func k) [] cap)
  (hc:a0b E k (args.map ρ++cap) H (fun r' H'=>r'=r/\H'=h)) (hk:K r h):a0z E ⟨d,.call ⟨.value f,args.toArray,tys⟩,ty,pos,after,g⟩ ρ H K :=
 a1c hG hf (hc.mono (by rintro _ _ ⟨rfl,rfl⟩;exact hk))
class GOk(E:Env)(ρ:Operand->AV):Prop where
 out:∀g,ρ (.global g)=E.G g
instance{E:Env}{sl:List (Nat × AV)}:GOk E (ev E sl):=⟨fun _=>rfl⟩
instance{E:Env}{ts:List Nat}{σ:Sf}:GOk E (evF E ts σ):=⟨fun _=>rfl⟩
theorem Cn{E:Env}{H:Hp}{K:AV->Hp->Prop}{ρ:Operand->AV}[GOk E ρ]{d:Option Nat}{ty:TypeId}{pos:String}{after:Array Edge}{g:Option (Nat × Bool)}{f:Operand}{args:List Operand}{tys:Array TypeId}{k:FuncId}{cap:List AV}{r r2:AV}{h h2:Hp}(hf:ρ f=.clo (.func k) [] cap)
  (hc:a0b E k (args.map ρ++cap) H (fun r' H'=>r'=r/\H'=h)) (h1:nv r=some r2) (h3:nh h=some h2) (hk:K r2 h2):a0z E ⟨d,.call ⟨.value f,args.toArray,tys⟩,ty,pos,after,g⟩ ρ H (Nx K) :=
 Ck GOk.out hf hc (nx h1 h3 hk)
end Go.Abs
