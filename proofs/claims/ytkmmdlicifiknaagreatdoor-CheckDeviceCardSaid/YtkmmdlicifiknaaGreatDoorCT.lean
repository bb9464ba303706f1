/- RecoveryLoad's walk. Joined texts, each with what its own name promises; no condition beyond those stated. -/
import Derived.Test.YtkmmdlicifiknaaGreatDoorCC
import Derived.Test.YtkmmdlicifiknaaGreatDoorCS
import Derived.Test.YtkmmdlicifiknaaGreatDoorCJ
import Derived.Test.YtkmmdlicifiknaaGreatDoorCM
import Derived.Test.YtkmmdlicifiknaaGreatDoorCL
import Derived.Test.YtkmmdlicifiknaaGreatDoorCR
import Derived.Test.YtkmmdlicifiknaaGreatDoorCB
import Derived.Scope
set_option maxHeartbeats 0
set_option maxRecDepth 100000
set_option linter.all false
namespace Go.Abs
theorem b5K{s:Sb}{ps:List Pt}{img:List UInt8}(h:c5n s ps img):a6C img.length/\img.length<=8832:=by
 obtain ⟨h1,h2,h3⟩:=b3X h.ok h.fit
 have h4:=h.len
 have h5:(szN (a0W s.short)).toNat<=138:=by omega
 have h6:82<=(szN (a0W s.short)).toNat:=by omega
 refine ⟨?_,by omega⟩
 unfold a6C
 omega
attribute [local irreducible] a0z a1p AWp Nx awM
def c7C(v:Dv)(l:La)(slot seq off n:Int):Option (List UInt8) :=
 if 0<=off/\0<=n/\off+n<=c0D l/\(a1a l=true/\0<=slot/\slot<l.regs)/\1<=seq/\seq<=281474976710655/\(off+n).toNat<=(a9R v seq.toNat (((off+n).toNat+58) / 59) ((74+slot*l.rs).toNat+1)).length then
  some (((a9R v seq.toNat (((off+n).toNat+58) / 59) ((74+slot*l.rs).toNat+1)).drop off.toNat).take n.toNat) else none
def c7E:Option (List UInt8)->AV
 | some b=>.tup [.sl 1 (b.map u8A),.bool true]
 | none=>.tup [.sl 1 [],.bool false]
theorem c7x{n:Nat}(o:Option (List UInt8)):a0d n (c7E o):=by
 cases o with
 | none=>exact ⟨trivial,trivial,trivial⟩
 | some b=>exact ⟨a0h fun _=>a0k,trivial,trivial⟩
def c7F:Option (List UInt8)->AV
 | some b=>.tup [.sl 1 (b.map u8A),.bool true]
 | none=>.tup [.nils,.bool false]
theorem c7z{E:Env}{m:Mu}{w:World}{v:Value}(o:Option (List UInt8))(h:E.Rel m w (c7F o) v):E.Rel m w (c7E o) v:=by
 cases o with
 | none=>exact a5N (fun v h=>a2P 1 h) v h
 | some b=>exact h
theorem c7D(l:La):0<=c0D l/\c0D l<=120773:=by
 unfold c0D
 split
 ·rename_i h;have:=a1z h;omega
 ·omega
theorem c7y(X:Nat->Prop)(v:Dv)(l:La)(slot seq:Int)(most:Int)(h:¬ (a2i l slot/\1<=seq/\seq<=281474976710655)) :
  a0b (E0 X) 73 [.ptr 0 0,laA l,.int .i64 slot,.int .i64 seq,.int .i64 most] (a0K v) (fun r H'=>r=.tup [.nils,.bool false]/\H'=a0K v):=by
 refine a0b.cutDv ?_ ⟨trivial,trivial,trivial⟩
 have hfc:Pur (E0 X) 100 [laA l,.int .i64 slot] (.int .i64 (a1b l slot)):=⟨⟨a1g,trivial,trivial⟩,fun Y=>b1u Y l slot⟩
 have hf1:a1b l slot<0\/a2i l slot:=by
  by_cases h1:a1a l=true/\0<=slot/\slot<l.regs
  ·exact .inr h1
  ·exact .inl (by rw [show a1b l slot=-1 from if_neg h1];decide)
 generalize a1b l slot=F at *
 refine Z0 Proofs.Tryz.func73 rfl Proofs.Tryz.ntmps73 (by kernel_rfl) rfl ?_
 repeat' (first|refine Zs rfl ?_|refine Zc rfl ?_)
 refine Zp rfl rfl (hfc) rfl ?_
 repeat' (first|refine Zs rfl ?_|refine Zc rfl ?_)
 by_cases h1:F<0
 ·rw [decide_eq_true h1]
  repeat' (first|refine Zs rfl ?_|refine Zc rfl ?_)
  refine a0c ⟨_,rfl,rfl,rfl⟩
 rw [decide_eq_false h1]
 repeat' (refine Zs rfl ?_)
 by_cases h2:seq<1
 ·rw [decide_eq_true h2]
  repeat' (first|refine Zs rfl ?_|refine Zc rfl ?_)
  refine a0c ⟨_,rfl,rfl,rfl⟩
 rw [decide_eq_false h2]
 repeat' (refine Zs rfl ?_)
 rw [decide_eq_true (show seq > 281474976710655 by rcases hf1 with h3|h3;exact absurd h3 h1;exact Classical.byContradiction fun h4=>h ⟨h3,by omega,by omega⟩)]
 repeat' (first|refine Zs rfl ?_|refine Zc rfl ?_)
 refine a0c ⟨_,rfl,rfl,rfl⟩
theorem c7B(X:Nat->Prop)(v:Dv)(hv:v.Inv)(l:La)(slot seq off n:Int) :
  a0b (E0 X) 24 [.ptr 0 0,laA l,.int .i64 slot,.int .i64 seq,.int .i64 off,.int .i64 n] (a0K v) (fun r H'=>r=c7F (c7C v l slot seq off n)/\H'.take 3=a0K v):=by
 have hca:Pur (E0 X) 72 [laA l] (.int .i64 (c0D l)):=⟨⟨a1g,trivial⟩,fun Y=>b4j Y l⟩
 have hcl:=c7D l
 have hlv:v.image.length<=1073741824:=by have:=hv.load.2.2;omega
 have hst:=c0i X v hv l slot
 have hno:=c7y X v l slot
 have hcf:a1a l=true->c0D l=(l.rs - 1)*59:=fun h=>if_pos h
 unfold c7C
 generalize c0D l=c at *
 refine Z0 Proofs.Tryz.func24 rfl Proofs.Tryz.ntmps24 (by kernel_rfl) rfl ?_
 refine Zc rfl (Zc rfl (Zs rfl (Zs rfl (Zs rfl (Zh ?_)))))
 refine Kz 3 [0,2,3,4,5,7,12,13] 3 (a1n v) rfl rfl ⟨Nat.zero_lt_succ 2,trivial,trivial,trivial,trivial,(a1g:a0d _ (laA l)),trivial,trivial,trivial⟩ ?_
 repeat' (first|refine Zs rfl ?_|refine Zc rfl ?_)
 by_cases h1:off<0
 ·rw [decide_eq_true h1,if_neg (by omega)]
  repeat' (first|refine Zs rfl ?_|refine Zc rfl ?_)
  refine a0c ⟨_,rfl,rfl,rfl⟩
 rw [decide_eq_false h1]
 repeat' (refine Zs rfl ?_)
 by_cases h2:n<0
 ·rw [decide_eq_true h2,if_neg (by omega)]
  repeat' (first|refine Zs rfl ?_|refine Zc rfl ?_)
  refine a0c ⟨_,rfl,rfl,rfl⟩
 rw [decide_eq_false h2]
 repeat' (refine Zs rfl ?_)
 refine Zp rfl rfl (hca) rfl ?_
 repeat' (refine Zs rfl ?_)
 by_cases h3:off > c
 ·rw [decide_eq_true h3,if_neg (by omega)]
  repeat' (first|refine Zs rfl ?_|refine Zc rfl ?_)
  refine a0c ⟨_,rfl,rfl,rfl⟩
 rw [decide_eq_false h3]
 repeat' (refine Zs rfl ?_)
 refine Zp rfl rfl (hca) rfl ?_
 repeat' (refine Zs rfl ?_)
 rw [show IntKind.i64.wrap (c - off)=c - off from a0r (by omega) (by omega)]
 by_cases h4:n > c - off
 ·rw [decide_eq_true h4,if_neg (by omega)]
  repeat' (first|refine Zs rfl ?_|refine Zc rfl ?_)
  refine a0c ⟨_,rfl,rfl,rfl⟩
 rw [decide_eq_false h4]
 obtain ⟨o,rfl⟩:=Int.eq_ofNat_of_zero_le (show 0<=off by omega)
 obtain ⟨k,rfl⟩:=Int.eq_ofNat_of_zero_le (show 0<=n by omega)
 have hw:IntKind.i64.wrap ((o:Int)+(k:Int))=((o+k:Nat):Int):=a0x (by omega) (by omega) (by omega)
 repeat' (first|refine Zs rfl ?_|refine Zc rfl ?_)
 rw [hw]
 by_cases hs:a2i l slot/\1<=seq/\seq<=281474976710655
 ·obtain ⟨hs1,hs2,hs3⟩:=hs
  obtain ⟨q,rfl⟩:=Int.eq_ofNat_of_zero_le (show 0<=seq by omega)
  have hcap:=hcf hs1.1
  have hst2:=hst q (o+k) hs1 (by omega) (by omega) (by omega)
  have hbl:=b3U v q ((o+k+58) / 59) ((74+slot*l.rs).toNat+1)
  rw [show ((o:Int)+(k:Int)).toNat=o+k by omega,Int.toNat_natCast,Int.toNat_natCast,Int.toNat_natCast]
  generalize a9R v q ((o+k+58) / 59) ((74+slot*l.rs).toNat+1)=b at *
  refine Zf rfl rfl (hst2) rfl rfl rfl ?_
  repeat' (first|refine Zs rfl ?_|refine Zc rfl ?_)
  rw [hw,List.length_map]
  by_cases h5:o+k<=b.length
  ·rw [decide_eq_false (show ¬ ((o+k:Nat):Int) > (b.length:Int) by omega),if_pos ⟨by omega,by omega,by omega,hs1,by omega,by omega,h5⟩]
   have ck:Pur (E0 X) 45 [.sl 1 (((b.drop o).take k).map u8A)] (.sl 1 (((b.drop o).take k).map u8A)):=⟨⟨a0h fun _=>a0k,trivial⟩,fun Y=>a0b.froz 1 (a4D Y ((b.drop o).take k) (by simp;omega)) (List.length_map _).symm rfl rfl a0X (a0h fun _=>a0k)⟩
   repeat' (first|refine Zs rfl ?_|refine Zc rfl ?_)
   rw [hw]
   refine Qa rfl ?_
   refine a1f (l:=o) (h:=o+k) (ys:=(b.drop o).take k) (a0q rfl rfl) (a0q rfl rfl) (by omega) (by omega) (by rw [List.drop_take];congr 1;omega) rfl rfl rfl rfl rfl ?_
   refine nx rfl rfl ?_
   skip
   refine Zp rfl rfl (ck) rfl ?_
   repeat' (refine Zs rfl ?_)
   refine a0c ⟨_,rfl,rfl,rfl⟩
  rw [decide_eq_true (show ((o+k:Nat):Int) > (b.length:Int) by omega),if_neg (fun h=>h5 h.2.2.2.2.2.2)]
  repeat' (first|refine Zs rfl ?_|refine Zc rfl ?_)
  refine a0c ⟨_,rfl,rfl,rfl⟩
 rw [if_neg (fun h=>hs ⟨h.2.2.2.1,h.2.2.2.2.1,h.2.2.2.2.2.1⟩)]
 refine Zf rfl rfl (hno seq ((o+k:Nat):Int) hs) rfl rfl rfl ?_
 repeat' (first|refine Zs rfl ?_|refine Zc rfl ?_)
 refine a0c ⟨_,rfl,rfl,rfl⟩
theorem c7A(X:Nat->Prop)(v:Dv)(hv:v.Inv)(l:La)(slot seq off n:Int) :
  a0b (E0 X) 24 [.ptr 0 0,laA l,.int .i64 slot,.int .i64 seq,.int .i64 off,.int .i64 n] (a0K v) (fun r H'=>r=c7E (c7C v l slot seq off n)/\H'=a0K v) :=
 a0b.cutDv ((c7B X v hv l slot seq off n).weakRv fun r H' ⟨h1,h2⟩=>⟨_,⟨rfl,h2⟩,fun m w u hu=>by subst h1;exact c7z _ hu⟩) (c7x _)
theorem b0X(img:List UInt8)(seq:Nat):∀(m M s:Nat),m<=M->a4L img seq m s=(a4L img seq M s).take (59*m)
 | 0,M,s,_=>by rw [Nat.mul_zero,List.take_zero];rfl
 | m+1,M,s,h=>by
  obtain ⟨M',rfl⟩:∃M',M=M'+1:=⟨M - 1,by omega⟩
  have ih:=b0X img seq m M' (s+1) (by omega)
  have e1:∀k,a4L img seq (k+1) s=match a2A 2 seq s (a4H img (s:Int)) with
    | none=>[]
    | some p=>p++a4L img seq k (s+1):=fun _=>rfl
  rw [e1,e1]
  cases hd:a2A 2 seq s (a4H img (s:Int)) with
  | none=>simp
  | some p =>
   have hp:=(a2e hd).1
   show p++a4L img seq m (s+1)=(p++a4L img seq M' (s+1)).take (59*(m+1))
   rw [ih,List.take_append,hp,List.take_of_length_le (show p.length<=59*(m+1) by omega),show 59*(m+1) - 59=59*m by omega]
end Go.Abs
namespace Go.Abs
def c6c(Q:Exit->St->Prop):Exit->St->Prop
 | .goto _,_=>False
 | e,s=>Q e s
section
variable{E:Env}{N n0:Nat}{Q:Exit->St->Prop}{s:St}
theorem b5p{c:Code}(h:AWp E N n0 c (c6c Q) s):AWp E N n0 (.scope c) Q s:=by
 intro m0 w0 hn m w a he hs
 refine wp_scope_straight (wp_mono (h m0 w0 hn m w a he hs) ?_)
 rintro e a' w' ⟨m',s',h1,h2,h3⟩
 cases e with
 | goto l=>exact h3.elim
 | _=>exact ⟨m',s',h1,h2,h3⟩
theorem b5o{l:Nat}(h:Q .normal s):AWp E N n0 (.label l) Q s:=fun _ _ _ m _ _ he hs=>wp_label ⟨m,s,he,hs,h⟩
end
end Go.Abs
namespace Go.Abs
inductive Kn where
 | sq (c:Code)
 | bl (id:Nat)
 | lp (u:Nat) (K:St->Prop)
def kQ(E:Env)(N n0:Nat)(Q:Exit->St->Prop):List Kn->Exit->St->Prop
 | []=>Q
 | .sq c::k=>a5W (AWp E N n0 c (kQ E N n0 Q k)) (kQ E N n0 Q k)
 | .bl i::k=>a4M i (kQ E N n0 Q k)
 | .lp _ K::k=>a5W K (kQ E N n0 Q k)
inductive Cf where
 | cd (c:Code)
 | rg (ops:Array Oper) (l:List Oper)
 | nm
 | ex (i:Nat)
def cfP(E:Env)(N n0:Nat)(Q:Exit->St->Prop):Cf->List Kn->St->Prop
 | .cd c,k,s=>AWp E N n0 c (kQ E N n0 Q k) s
 | .rg ops l,k,s=>a1p E ops l (kQ E N n0 Q k .normal) s
 | .nm,k,s=>kQ E N n0 Q k .normal s
 | .ex i,k,s=>kQ E N n0 Q k (.exit i) s
def isC:Operand->Bool
 | .const _=>true
 | _=>false
def sfO(lt:List Nat)(ρ:Operand->AV):Op->Bool
 | .pick c _ _=>isLit lt c
 | .load _ x=>match ρ x with
  | .ptr _ _=>true
  | .fp _=>true
  | _=>false
 | .store _ p _=>match ρ p with
  | .ptr _ _=>true
  | _=>false
 | .binOp .quo _ _ y _=>isC y
 | .binOp .rem _ _ y _=>isC y
 | .indexAddr _ _ i=>isC i
 | _=>true
def sfS:Op->Bool
 | .binOp .quo _ _ y _=>isC y
 | .binOp .rem _ _ y _=>isC y
 | .indexAddr _ _ i=>isC i
 | _=>true
def v1(E:Env)(orc:FuncId->List AV->Option AV)(lt:List Nat)(sl:List (Nat × AV))(hp:Hp)(o:Oper):Option (List (Nat × AV) × Hp) :=
 cond (sfO lt (ev E sl) o.op) (match vP E (ev E sl) hp o.op with
  | some p=>pD o sl (some p)
  | none=>match clE E orc (ev E sl) o.op with
   | some r=>match nv r with
    | some r2=>pD o sl (some (r2,hp))
    | none=>none
   | none=>none) (match o.op with
  | .pick c x y=>match ev E sl c,ev E sl x,ev E sl y with
   | .bool b,.bool p,.bool q=>pD o sl (some (.bool (cond b p q),hp))
   | _,_,_=>none
  | _=>none)
def gdK(ops:Array Oper)(lt:List Nat)(sl:List (Nat × AV))(o:Oper):Option Nat:=match o.guard with
 | none=>some 2
 | some (j,_)=>match (ops[j]?).bind (·.dst) with
  | some d=>match lt.any fun i=>Nat.beq i d with
   | true=>some 1
   | false=>match get sl d with
    | .tup []=>some 1
    | _=>some 3
  | none=>some 3
def rgE(E:Env)(orc:FuncId->List AV->Option AV)(ops:Array Oper):Nat->List Oper->List Nat->List (Nat × AV)->Hp->Option (List Oper × List Nat × List (Nat × AV) × Hp)
 | 0,l,lt,sl,hp=>some (l,lt,sl,hp)
 | _+1,[],lt,sl,hp=>some ([],lt,sl,hp)
 | n+1,o::rest,lt,sl,hp=>match gdK ops lt sl o with
  | some 3=>some (o::rest,lt,sl,hp)
  | _=>match a0H ops o sl with
   | some true=>match v1 E orc lt sl hp o with
    | some (s1,h1)=>match ltU lt sl o with
     | some l1=>rgE E orc ops n rest l1 s1 h1
     | none=>none
    | none=>some (o::rest,lt,sl,hp)
   | some false=>rgE E orc ops n rest lt (skE sl o) hp
   | none=>some (o::rest,lt,sl,hp)
def c5r:List Kn->Bool
 | .sq _::_=>true
 | .bl _::k=>c5r k
 | _=>false
def c6z(l:Array Oper):Bool:=a5G l [] [] (a8A l.toList.length 0) (Array.replicate l.toList.length false)&&b1s l (Array.replicate l.toList.length false)&&(Region.ready .any l (a5E (a8A l.toList.length 0) (Array.replicate l.toList.length false))).isEmpty
def go(E:Env)(N n0:Nat)(Q:Exit->St->Prop)(orc:FuncId->List AV->Option AV):Nat->Cf->List Kn->List Nat->List (Nat × AV)->Hp->Option Prop
 | 0,cf,k,_,sl,hp=>some (cfP E N n0 Q cf k ⟨sl,hp⟩)
 | n+1,.nm,k,lt,sl,hp=>match k with
  | []=>some (Q .normal ⟨sl,hp⟩)
  | .sq c::k=>go E N n0 Q orc n (.cd c) k lt sl hp
  | .bl _::k=>go E N n0 Q orc n .nm k lt sl hp
  | .lp _ K::_=>some (K ⟨sl,hp⟩)
 | n+1,.ex i,k,lt,sl,hp=>match k with
  | []=>some (Q (.exit i) ⟨sl,hp⟩)
  | .sq _::k=>go E N n0 Q orc n (.ex i) k lt sl hp
  | .bl j::k=>match Nat.beq i j with
   | true=>go E N n0 Q orc n .nm k lt sl hp
   | false=>go E N n0 Q orc n (.ex i) k lt sl hp
  | .lp _ _::k=>go E N n0 Q orc n (.ex i) k lt sl hp
 | n+1,.rg ops l,k,lt,sl,hp=>match rgE E orc ops 400 l lt sl hp with
  | some ([],l1,s1,h1)=>go E N n0 Q orc n .nm k l1 s1 h1
  | some (o::r,l1,s1,h1)=>match c5r k&&(match gdK ops l1 s1 o with
    | some 3=>true
    | _=>false)&&(o::r).all fun o=>sfS o.op with
   | true=>match a5Z E orc false ops h1 400 [] l1 (o::r) s1 with
    | some s2=>go E N n0 Q orc n .nm k [] s2 h1
    | none=>some (a1p E ops (o::r) (kQ E N n0 Q k .normal) ⟨s1,h1⟩)
   | false=>some (a1p E ops (o::r) (kQ E N n0 Q k .normal) ⟨s1,h1⟩)
  | none=>none
 | n+1,.cd c,k,lt,sl,hp=>match c with
  | .seq a b=>go E N n0 Q orc n (.cd a) (.sq b::k) lt sl hp
  | .skip=>go E N n0 Q orc n .nm k lt sl hp
  | .block i c=>go E N n0 Q orc n (.cd c) (.bl i::k) lt sl hp
  | .exit i=>go E N n0 Q orc n (.ex i) k lt sl hp
  | .ret=>some (Q .ret ⟨sl,hp⟩)
  | .region i l false=>match a2l N l.toList with
   | true=>go E N n0 Q orc n (.rg l l.toList) k lt sl hp
   | false=>none
  | .region i l true=>match a2l N l.toList&&c5r k&&l.toList.all fun o=>sfS o.op with
   | true=>match a5Z E orc true l hp 400 [] lt l.toList sl with
    | some s1=>match go E N n0 Q orc n .nm k [] s1 hp with
     | some G=>some (c6z l=true/\G)
     | none=>none
    | none=>some (AWp E N n0 (.region i l true) (kQ E N n0 Q k) ⟨sl,hp⟩)
   | false=>some (AWp E N n0 (.region i l true) (kQ E N n0 Q k) ⟨sl,hp⟩)
  | .cond x a b=>match ev E sl x with
   | .bool v=>match isLit lt x with
    | true=>match v with
     | true=>go E N n0 Q orc n (.cd a) k lt sl hp
     | false=>go E N n0 Q orc n (.cd b) k lt sl hp
    | false=>match go E N n0 Q orc n (.cd a) k lt sl hp,go E N n0 Q orc n (.cd b) k lt sl hp with
     | some G1,some G2=>some ((v=true->G1)/\(v=false->G2))
     | _,_=>none
   | _=>some (AWp E N n0 (.cond x a b) (kQ E N n0 Q k) ⟨sl,hp⟩)
  | c=>some (AWp E N n0 c (kQ E N n0 Q k) ⟨sl,hp⟩)
section
variable{E:Env}{N n0:Nat}{Q:Exit->St->Prop}{orc:FuncId->List AV->Option AV}
theorem b3h{s:St}(h:Q .ret s):∀k:List Kn,kQ E N n0 Q k .ret s
 | []=>h
 | .sq _::k=>b3h h k
 | .bl _::k=>b3h h k
 | .lp _ _::k=>b3h h k
theorem a8X{sl sl':List (Nat × AV)}{hp:Hp}(hf:Fin E sl sl'):∀{k:List Kn},c5r k=true->kQ E N n0 Q k .normal ⟨sl',hp⟩->kQ E N n0 Q k .normal ⟨sl,hp⟩
 | .sq c::k,_,h=>by
  have h1:AWp E N n0 c (kQ E N n0 Q k) ⟨sl',hp⟩:=h
  exact (a0t (b1D hf) h1:AWp E N n0 c (kQ E N n0 Q k) ⟨sl,hp⟩)
 | .bl _::k,hc,h=>a8X (k:=k) hf hc h
 | [],hc,_=>by cases hc
 | .lp _ _::_,hc,_=>by cases hc
theorem c0o(ho:∀k a r,orc k a=some r->Pur E k a r){lt:List Nat}{sl s1:List (Nat × AV)}{hp h1:Hp}{o:Oper}{K:List (Nat × AV)->Hp->Prop}(h:v1 E orc lt sl hp o=some (s1,h1))(hK:K s1 h1):a0z E o (ev E sl) hp (fun r H'=>K (put o.dst r sl) H'):=by
 unfold v1 at h
 cases hs:sfO lt (ev E sl) o.op with
 | false =>
  rw [hs] at h
  simp only [cond_false] at h
  split at h
  ·rename_i c x y ho
   split at h
   ·rename_i b p q hb hp hq
    obtain ⟨r,hr,rfl⟩:=a7P h
    cases hr
    obtain ⟨od,op,ty,pos,after,g⟩:=o
    have ho':op=.pick c x y:=ho
    subst ho'
    refine a9N ?_ hK
    rw [hb,hp,hq]
    cases b<;>rfl
   ·cases h
  ·cases h
 | true =>
  rw [hs] at h
  simp only [cond_true] at h
  split at h
  ·rename_i p hv
   obtain ⟨r,hr,rfl⟩:=a7P h
   cases hr
   exact a7o hv hK
  split at h
  ·rename_i r hr
   split at h
   ·rename_i r2 hn
    obtain ⟨r3,h3,rfl⟩:=a7P h
    cases h3
    obtain rfl:=a6q hn
    exact a7v ho (fun _=>rfl) hr hK
   ·cases h
  ·cases h
theorem a5O(ho:∀k a r,orc k a=some r->Pur E k a r){ops:Array Oper}{K:St->Prop}:∀{n:Nat} {l l':List Oper} {lt lt':List Nat} {sl sl':List (Nat × AV)} {hp hp':Hp},rgE E orc ops n l lt sl hp=some (l',lt',sl',hp')->a1p E ops l' K ⟨sl',hp'⟩->a1p E ops l K ⟨sl,hp⟩:=by
 intro n
 induction n with
 | zero=>intro l l' lt lt' sl sl' hp hp' h k;simp only [rgE,Option.some.injEq,Prod.mk.injEq] at h;obtain ⟨rfl,rfl,rfl,rfl⟩:=h;exact k
 | succ n ih =>
  intro l l' lt lt' sl sl' hp hp' h k
  cases l with
  | nil=>simp only [rgE,Option.some.injEq,Prod.mk.injEq] at h;obtain ⟨rfl,rfl,rfl,rfl⟩:=h;exact k
  | cons o rest =>
   unfold rgE at h
   split at h
   ·simp only [Option.some.injEq,Prod.mk.injEq] at h;obtain ⟨rfl,rfl,rfl,rfl⟩:=h;exact k
   split at h
   ·rename_i hw
    split at h
    ·rename_i hv
     split at h
     ·exact a1U hw (c0o ho (K:=fun s H=>a1p E ops rest K ⟨s,H⟩) hv (ih h k))
     ·cases h
    ·simp only [Option.some.injEq,Prod.mk.injEq] at h;obtain ⟨rfl,rfl,rfl,rfl⟩:=h;exact k
   ·rename_i hw
    rw [b3Q] at h
    exact a5n hw (ih h k)
   ·simp only [Option.some.injEq,Prod.mk.injEq] at h;obtain ⟨rfl,rfl,rfl,rfl⟩:=h;exact k
theorem go_sound(ho:∀k a r,orc k a=some r->Pur E k a r):∀{n:Nat} {cf:Cf} {k:List Kn} {lt:List Nat} {sl:List (Nat × AV)} {hp:Hp} {G:Prop},go E N n0 Q orc n cf k lt sl hp=some G->G->cfP E N n0 Q cf k ⟨sl,hp⟩:=by
 intro n
 induction n with
 | zero=>intro cf k lt sl hp G h g;simp only [go,Option.some.injEq] at h;subst h;exact g
 | succ n ih =>
  intro cf k lt sl hp G h g
  cases cf with
  | nm =>
   unfold go at h
   split at h
   ·cases h;exact g
   ·exact (ih h g:AWp E N n0 _ _ _)
   ·exact (ih h g:kQ E N n0 Q _ .normal _)
   ·cases h;exact g
  | ex i =>
   unfold go at h
   split at h
   ·cases h;exact g
   ·exact (ih h g:kQ E N n0 Q _ (.exit i) _)
   ·rename_i j k
    split at h
    ·rename_i hj
     have hij:=Nat.eq_of_beq_eq_true hj
     have h1:kQ E N n0 Q k .normal ⟨sl,hp⟩:=ih h g
     show (if i=j then kQ E N n0 Q k .normal ⟨sl,hp⟩ else kQ E N n0 Q k (.exit i) ⟨sl,hp⟩)
     rw [if_pos hij];exact h1
    rename_i hj
    have hij:¬ i=j:=fun e=>by rw [e,Nat.beq_refl] at hj;cases hj
    have h1:kQ E N n0 Q k (.exit i) ⟨sl,hp⟩:=ih h g
    show (if i=j then kQ E N n0 Q k .normal ⟨sl,hp⟩ else kQ E N n0 Q k (.exit i) ⟨sl,hp⟩)
    rw [if_neg hij];exact h1
   ·exact (ih h g:kQ E N n0 Q _ (.exit i) _)
  | rg ops l =>
   unfold go at h
   split at h
   ·rename_i hr
    exact a5O ho hr (a4y (ih h g:kQ E N n0 Q k .normal _))
   ·rename_i o r l1 s1 h1 hr
    split at h
    ·rename_i hc
     simp only [Bool.and_eq_true] at hc
     split at h
     ·rename_i s2 hs2
      refine a5O ho hr (a8F ho (fun a b hf hk=>a8X hf hc.1.1 hk) hs2 (ih h g:kQ E N n0 Q k .normal _))
     ·cases h;exact a5O ho hr g
    ·cases h;exact a5O ho hr g
   ·cases h
  | cd c =>
   unfold go at h
   split at h
   ·exact a0u (ih h g)
   ·exact a1t (ih h g)
   ·exact a3u (ih h g)
   ·exact b2F (ih h g)
   ·cases h;exact a0c (b3h g k)
   ·rename_i i l
    split at h
    ·rename_i hd
     exact a0m (l:=l.toList) hd (ih h g:a1p E l l.toList _ _)
    ·cases h
   ·rename_i i l
    split at h
    ·rename_i hc
     simp only [Bool.and_eq_true] at hc
     split at h
     ·rename_i s1 hs1
      split at h
      ·rename_i G1 hg
       cases h
       refine a0p (l:=l.toList) [] [] hc.1.1 g.1 (a8E ho (fun a b hf hk=>a8X hf hc.1.2 hk) (by
        rw [Array.length_toList]
        exact (a9u l l.size 0 (by omega)).trans (by simp)) hs1 (ih hg g.2:kQ E N n0 Q k .normal _))
      ·cases h
     ·cases h;exact g
    ·cases h;exact g
   ·rename_i x a b
    split at h
    ·rename_i v hv
     split at h
     ·cases v with
      | true=>exact a1j hv (ih h g)
      | false=>exact a1v hv (ih h g)
     split at h
     ·rename_i G1 G2 h1 h2
      cases h
      exact a0I hv (fun e=>ih h1 (g.1 e)) (fun e=>ih h2 (g.2 e))
     ·cases h
    ·cases h;exact g
   ·cases h;exact g
theorem G0{c:Code}{sl:List (Nat × AV)}{hp:Hp}{G:Prop}(h:go E N n0 Q b3v 1000 (.cd c) [] [] sl hp=some G)(g:G):AWp E N n0 c Q ⟨sl,hp⟩:=go_sound a3r h g
theorem Gc{c:Code}{k:List Kn}{sl:List (Nat × AV)}{hp:Hp}{G:Prop}(h:go E N n0 Q b3v 1000 (.cd c) k [] sl hp=some G)(g:G):AWp E N n0 c (kQ E N n0 Q k) ⟨sl,hp⟩:=go_sound a3r h g
theorem Gr{ops:Array Oper}{l:List Oper}{k:List Kn}{sl:List (Nat × AV)}{hp:Hp}{G:Prop}(h:go E N n0 Q b3v 1000 (.rg ops l) k [] sl hp=some G)(g:G):a1p E ops l (kQ E N n0 Q k .normal) ⟨sl,hp⟩:=(go_sound a3r h g:a1p E ops l _ _)
end
end Go.Abs
namespace Go.Abs
def opM(m:Nat):Operand->Nat
 | .tmp t=>Nat.lor m (Nat.shiftLeft 1 t)
 | _=>m
def c7u(m:Nat)(o:Oper):Nat:=o.op.operands.toList.foldl opM m
def b4T:Code->Nat->Nat
 | .seq a b,m=>b4T b (b4T a m)
 | .region _ l _,m=>l.toList.foldl c7u m
 | .cond x a b,m=>b4T b (b4T a (opM m x))
 | .block _ c,m=>b4T c m
 | .loop c,m=>b4T c m
 | .scope c,m=>b4T c m
 | .rangeFunc f _ a b,m=>b4T b (b4T a (opM m f))
 | _,m=>m
def c3w:List Kn->Nat->Nat
 | [],m=>m
 | .sq c::k,m=>c3w k (b4T c m)
 | .bl _::k,m=>c3w k m
 | .lp u _::k,m=>c3w k (Nat.lor u m)
def c6n(m i:Nat):Bool:=Nat.beq (Nat.land (Nat.shiftRight m i) 1) 1
def mpS(f:AV->AV):List (Nat × AV)->List (Nat × AV)
 | []=>[]
 | (i,v)::r=>(i,f v)::mpS f r
theorem c0R(f:AV->AV):∀l:List (Nat × AV),mpS f l=l.map fun p=>(p.1,f p.2)
 | []=>rfl
 | (i,v)::r=>by rw [mpS,c0R f r];rfl
def lvS(m:Nat):Nat->List (Nat × AV)->Option (List (Nat × AV))
 | _,[]=>some []
 | d,(i,v)::r=>match c6n m i&&!(c6n d i) with
  | true=>match nv v,lvS m (Nat.lor d (Nat.shiftLeft 1 i)) r with
   | some x,some l=>some ((i,x)::l)
   | _,_=>none
  | false=>lvS m d r
def mkM:List (Nat × AV)->Nat
 | []=>0
 | (i,_)::r=>Nat.lor (Nat.shiftLeft 1 i) (mkM r)
def HL(n:Nat):Hp->Prop
 | []=>True
 | none::r=>HL n r
 | some o::r=>a2b n o/\HL n r
theorem c1H{n:Nat}:∀{H:Hp},HL n H->HOk n H
 | [],_,id,o,ho=>by simp at ho
 | none::r,h,id,o,ho=>by
  cases id with
  | zero=>simp at ho
  | succ id=>exact c1H (H:=r) h id o (by simpa using ho)
 | some x::r,h,id,o,ho=>by
  cases id with
  | zero=>simp at ho;subst ho;exact h.1
  | succ id=>exact c1H (H:=r) h.2 id o (by simpa using ho)
theorem c1M{n:Nat}{a b:List AV}:a0e n (a++b)=(a0e n a/\a0e n b):=by
 induction a with
 | nil=>simp [a0e]
 | cons x a ih=>simp [a0e,ih,and_assoc]
theorem c4a{n:Nat}{a b:Hp}:HL n (a++b)=(HL n a/\HL n b):=by
 induction a with
 | nil=>simp [HL]
 | cons x a ih=>cases x<;>simp [HL,ih,and_assoc]
theorem sd:(∀n,HL n []=True)/\(∀n r,HL n (none::r)=HL n r)/\(∀n o r,HL n (some o::r)=(a2b n o/\HL n r))/\(∀n a b,HL n (a++b)=(HL n a/\HL n b)) /\
  (∀n cs e,a2b n (.cells cs e)=a0e n cs)/\(∀n cs e,a2b n (.arr cs e)=a0e n cs)/\(∀n es,a2b n (.map es)=(a0e n (es.map (·.1))/\a0e n (es.map (·.2))))/\(∀n s p,a2b n (.itr s p)=True) /\
  (∀n,a0e n []=True)/\(∀n x xs,a0e n (x::xs)=(a0d n x/\a0e n xs))/\(∀n a b,a0e n (a++b)=(a0e n a/\a0e n b)) /\
  (∀n,a0d n .any=True)/\(∀n k z,a0d n (.int k z)=True)/\(∀n b,a0d n (.bool b)=True)/\(∀n s,a0d n (.str s)=True) /\
  (∀n,a0d n .nilp=True)/\(∀n,a0d n .nils=True)/\(∀n,a0d n .nilm=True)/\(∀n,a0d n .nilf=True)/\(∀n,a0d n .nili=True) /\
  (∀n cs,a0d n (.fp cs)=a0e n cs)/\(∀n i o,a0d n (.ptr i o)=(i<n))/\(∀n i j o,a0d n (.pe i j o)=(i<n))/\(∀n k es,a0d n (.sl k es)=a0e n es)/\(∀n i l c,a0d n (.own i l c)=(i<n)) /\
  (∀n i,a0d n (.mp i)=(i<n))/\(∀n cs,a0d n (.agg cs)=a0e n cs)/\(∀n cs,a0d n (.tup cs)=a0e n cs)/\(∀n f a b,a0d n (.clo f a b)=(a0e n a/\a0e n b))/\(∀n t x,a0d n (.ifc t x)=a0d n x):=by
 refine ⟨fun _=>rfl,fun _ _=>rfl,fun _ _ _=>rfl,fun _ _ _=>c4a,fun _ _ _=>rfl,fun _ _ _=>rfl,fun _ _=>rfl,fun _ _ _=>rfl,fun _=>?_,fun _ _ _=>?_,fun _ _ _=>c1M,?_⟩
 ·simp [a0e]
 ·simp [a0e]
 ·simp [a0d]
section
variable{E:Env}{N n0:Nat}{Q:Exit->St->Prop}{c:Code}{k:List Kn}{sl sl' kp:List (Nat × AV)}{hp H0:Hp}
theorem gi(n:Nat)(h:(hp.take n,Nat.ble n hp.length&&Nat.ble n0 n,sl'.map fun p=>get sl p.1)=(H0,true,sl'.map (·.2)))(hd:HL n H0/\a0e n (sl'.map (·.2))):Imp E N n0 ⟨sl,hp⟩ ⟨sl',H0⟩:=kk n (c1H hd.1) h hd.2
theorem Gz(i n ks:Nat){cs:List AV}{e:TypeId}(ho:hp[i]?=some (some (.cells cs e)))(hs:lvS (b4T c (c3w k ks)) 0 (mpS (c1F i cs) sl)=some sl')(hh:nh ((hp.set i none).take n)=some H0)
  (h:(Nat.ble n (hp.set i none).length&&Nat.ble n0 n,sl'.map fun p=>get (mpS (c1F i cs) sl) p.1)=(true,sl'.map (·.2))) (hd:HL n H0/\a0e n (sl'.map (·.2)))
  (g:AWp E N n0 c (kQ E N n0 Q k) ⟨sl',H0⟩):AWp E N n0 c (kQ E N n0 Q k) ⟨sl,hp⟩:=a0t ((a0w ho).trans (by rw [<- c0R];exact gi n (by rw [b1I hh,(Prod.mk.inj h).1,(Prod.mk.inj h).2]) hd)) g
theorem G1(n:Nat){sl:List (Nat × AV)}{hp:Hp}{G:Prop}(h:go E N n0 Q b3v n (.cd c) [] [] sl hp=some G)(g:G):AWp E N n0 c Q ⟨sl,hp⟩:=go_sound a3r h g
theorem Gl{ι:Type}(ks:Nat)(up:ι->List (Nat × AV))(hF:ι->Hp)(I:ι->Prop)(μ:ι->Nat)(i0:ι)(hs:lvS (b4T c (c3w k ks)) (mkM (up i0)) sl=some kp)(hI:I i0)
  (h0:Imp E N n0 ⟨sl,hp⟩ ⟨up i0++kp,hF i0⟩)
  (h:∀i,I i->AWp E N n0 c (kQ E N n0 Q (.lp (b4T c (c3w k ks)) (fun s'=>∃j,I j/\μ j < μ i/\Imp E N n0 s' ⟨up j++kp,hF j⟩)::k)) ⟨up i++kp,hF i⟩):AWp E N n0 (.loop c) (kQ E N n0 Q k) ⟨sl,hp⟩ :=
 a0s (fun i=>⟨up i++kp,hF i⟩) I μ i0 hI h0 fun i hi=>h i hi
end
end Go.Abs
namespace Go.Abs
section
variable{E:Env}{N n0:Nat}{Q:Exit->St->Prop}{K:List Kn}{ops:Array Oper}{rest:List Oper}{sl:List (Nat × AV)}{hp hp' h2:Hp}{d:Nat}{ty:TypeId}{pos:String}{after:Array Edge}{g:Option (Nat × Bool)}
variable{f:Operand}{args:List Operand}{tys:Array TypeId}{k:FuncId}{cap aa:List AV}{r r2:AV}{R:AV->Hp->Prop}{G:Prop}
theorem GM(hc:a0b E k aa hp R)(hw:a0H ops ⟨some d,.call ⟨.value f,args.toArray,tys⟩,ty,pos,after,g⟩ sl=some true)(hf:ev E sl f=.clo (.func k) [] cap)(ha:args.map (ev E sl)++cap=aa)
  (h:∀r H',R r H'->a1p E ops rest (kQ E N n0 Q K .normal) ⟨(d,r)::sl,H'⟩):a1p E ops (⟨some d,.call ⟨.value f,args.toArray,tys⟩,ty,pos,after,g⟩::rest) (kQ E N n0 Q K .normal) ⟨sl,hp⟩:=by
 subst ha
 exact a1U hw (a1c (fun _=>rfl) hf (hc.mono h))
theorem GP1(lt:List Nat)(hc:Pur E k aa r)(hw:a0H ops ⟨some d,.call ⟨.value f,args.toArray,tys⟩,ty,pos,after,g⟩ sl=some true)(hf:ev E sl f=.clo (.func k) [] cap)(ha:args.map (ev E sl)++cap=aa)(hn:nv r=some r2)
  (h:go E N n0 Q b3v 1000 (.rg ops rest) K lt ((d,r2)::sl) hp=some G) (q:G):a1p E ops (⟨some d,.call ⟨.value f,args.toArray,tys⟩,ty,pos,after,g⟩::rest) (kQ E N n0 Q K .normal) ⟨sl,hp⟩:=by
 refine GM (a0f hc.2 hc.1 hp) hw hf ha ?_
 rintro _ _ ⟨rfl,rfl⟩
 rw [a6q hn]
 exact (go_sound a3r h q:a1p E ops _ _ _)
theorem GP(hc:Pur E k aa r)(hw:a0H ops ⟨some d,.call ⟨.value f,args.toArray,tys⟩,ty,pos,after,g⟩ sl=some true)(hf:ev E sl f=.clo (.func k) [] cap)(ha:args.map (ev E sl)++cap=aa)(hn:nv r=some r2)
  (h:go E N n0 Q b3v 1000 (.rg ops rest) K [] ((d,r2)::sl) hp=some G) (q:G):a1p E ops (⟨some d,.call ⟨.value f,args.toArray,tys⟩,ty,pos,after,g⟩::rest) (kQ E N n0 Q K .normal) ⟨sl,hp⟩:=GP1 [] hc hw hf ha hn h q
theorem GF1(lt:List Nat)(hc:a0b E k aa hp fun r' H'=>r'=r/\H'=hp')(hw:a0H ops ⟨some d,.call ⟨.value f,args.toArray,tys⟩,ty,pos,after,g⟩ sl=some true)(hf:ev E sl f=.clo (.func k) [] cap)(ha:args.map (ev E sl)++cap=aa)
  (hn:nv r=some r2) (hh:nh hp'=some h2) (h:go E N n0 Q b3v 1000 (.rg ops rest) K lt ((d,r2)::sl) h2=some G) (q:G) :
  a1p E ops (⟨some d,.call ⟨.value f,args.toArray,tys⟩,ty,pos,after,g⟩::rest) (kQ E N n0 Q K .normal) ⟨sl,hp⟩:=by
 refine GM hc hw hf ha ?_
 rintro _ _ ⟨rfl,rfl⟩
 rw [a6q hn,b1I hh]
 exact (go_sound a3r h q:a1p E ops _ _ _)
theorem GF(hc:a0b E k aa hp fun r' H'=>r'=r/\H'=hp')(hw:a0H ops ⟨some d,.call ⟨.value f,args.toArray,tys⟩,ty,pos,after,g⟩ sl=some true)(hf:ev E sl f=.clo (.func k) [] cap)(ha:args.map (ev E sl)++cap=aa)
  (hn:nv r=some r2) (hh:nh hp'=some h2) (h:go E N n0 Q b3v 1000 (.rg ops rest) K [] ((d,r2)::sl) h2=some G) (q:G) :
  a1p E ops (⟨some d,.call ⟨.value f,args.toArray,tys⟩,ty,pos,after,g⟩::rest) (kQ E N n0 Q K .normal) ⟨sl,hp⟩:=GF1 [] hc hw hf ha hn hh h q
theorem GS{o:Oper}{r1 r2:AV}{h1 h2:Hp}(hs:a0z E o (ev E sl) hp fun r H'=>r=r1/\H'=h1)(hw:a0H ops o sl=some true)(hn:nv r1=some r2)(hh:nh h1=some h2)
  (h:go E N n0 Q b3v 1000 (.rg ops rest) K [] (put o.dst r2 sl) h2=some G) (q:G):a1p E ops (o::rest) (kQ E N n0 Q K .normal) ⟨sl,hp⟩:=by
 refine a1U hw (a1e hs ?_)
 rintro _ _ ⟨rfl,rfl⟩
 rw [a6q hn,b1I hh]
 exact Gr h q
end
end Go.Abs
namespace Go.Abs
def c6A(l:Array Oper)(ef so:List Nat):Bool:=a5G l.toList.toArray ef so (a8A l.toList.length 0) (Array.replicate l.toList.length false)&&b1s l.toList.toArray (Array.replicate l.toList.length false)&&(Region.ready .any l.toList.toArray (a5E (a8A l.toList.length 0) (Array.replicate l.toList.length false))).isEmpty
def dgE(E:Env)(ops:Array Oper)(ef so:List Nat):Nat->List Nat->List Nat->List (Nat × AV)->Hp->Option (List Nat × List Nat × List (Nat × AV) × Hp)
 | 0,l,lt,sl,hp=>some (l,lt,sl,hp)
 | _+1,[],lt,sl,hp=>some ([],lt,sl,hp)
 | n+1,i::rest,lt,sl,hp=>match ops[i]? with
  | some o=>match gdK ops lt sl o with
   | some 3=>some (i::rest,lt,sl,hp)
   | _=>match sfO lt (evF E (a4w o) (get sl)) o.op with
    | true=>match vD E ops ef so i sl hp with
     | some (s1,h1)=>match ltU lt sl o with
      | some l1=>dgE E ops ef so n rest l1 s1 h1
      | none=>none
     | none=>some (i::rest,lt,sl,hp)
    | false=>some (i::rest,lt,sl,hp)
  | none=>none
def goD(E:Env)(N n0:Nat)(Q:Exit->St->Prop)(ops:Array Oper)(ef so:List Nat)(k:List Kn)(lt l:List Nat)(sl:List (Nat × AV))(hp:Hp):Option Prop :=
 match dgE E ops ef so 400 l lt sl hp with
 | some ([],l1,s1,h1)=>go E N n0 Q b3v 1000 .nm k l1 s1 h1
 | some (i::r,_,s1,h1)=>some (awM E ops ef so (kQ E N n0 Q k .normal) (i::r) ⟨s1,h1⟩)
 | none=>none
section
variable{E:Env}{N n0:Nat}{Q:Exit->St->Prop}{K:List Kn}{ops:Array Oper}{ef so:List Nat}{sl:List (Nat × AV)}{hp hp' h2:Hp}{G:Prop}
theorem Zd0{K:St->Prop}{sl':List (Nat × AV)}{i:Nat}{rest:List Nat}(h:vD E ops ef so i sl hp=some (sl',hp'))(k:awM E ops ef so K rest ⟨sl',hp'⟩):awM E ops ef so K (i::rest) ⟨sl,hp⟩:=by
 unfold vD at h
 split at h
 ·rename_i o ho
  split at h
  ·rename_i hw
   cases he:ef.contains i with
   | true =>
    rw [he] at h
    obtain ⟨r,h1,rfl⟩:=a7P h
    simp only [awM,ho,hw,he,if_true]
    exact a7o h1 k
   | false =>
    rw [he] at h
    simp only [cond_false] at h
    split at h
    ·rename_i r hr
     split at h
     ·rename_i r2 h2
      obtain ⟨r3,h1,rfl⟩:=a7P h
      cases h1
      obtain rfl:=a6q h2
      cases hs:so.contains i with
      | true =>
       rw [hs] at hr
       simp only [awM,ho,hw,he,hs,Bool.false_eq_true,if_false,if_true]
       exact ⟨_,fun H=>a3g (b3S hr) ⟨rfl,rfl⟩,k⟩
      | false =>
       rw [hs] at hr
       simp only [awM,ho,hw,he,hs,Bool.false_eq_true,if_false]
       exact ⟨_,a3g hr ⟨rfl,rfl⟩,k⟩
     ·cases h
    ·cases h
  ·rename_i hw
   obtain ⟨r,h1,rfl⟩:=a7P h
   cases h1
   simp only [awM,ho,hw]
   exact k
  ·cases h
 ·cases h
theorem b0m{P:St->Prop}:∀{n:Nat} {l l' lt lt':List Nat} {sl sl':List (Nat × AV)} {hp hp':Hp},dgE E ops ef so n l lt sl hp=some (l',lt',sl',hp')->awM E ops ef so P l' ⟨sl',hp'⟩->awM E ops ef so P l ⟨sl,hp⟩:=by
 intro n
 induction n with
 | zero=>intro l l' lt lt' sl sl' hp hp' h k;simp only [dgE,Option.some.injEq,Prod.mk.injEq] at h;obtain ⟨rfl,rfl,rfl,rfl⟩:=h;exact k
 | succ n ih =>
  intro l l' lt lt' sl sl' hp hp' h k
  cases l with
  | nil=>simp only [dgE,Option.some.injEq,Prod.mk.injEq] at h;obtain ⟨rfl,rfl,rfl,rfl⟩:=h;exact k
  | cons i rest =>
   unfold dgE at h
   split at h
   ·split at h
    ·simp only [Option.some.injEq,Prod.mk.injEq] at h;obtain ⟨rfl,rfl,rfl,rfl⟩:=h;exact k
    split at h
    ·split at h
     ·rename_i hv
      split at h
      ·exact Zd0 hv (ih h k)
      ·cases h
     ·simp only [Option.some.injEq,Prod.mk.injEq] at h;obtain ⟨rfl,rfl,rfl,rfl⟩:=h;exact k
    ·simp only [Option.some.injEq,Prod.mk.injEq] at h;obtain ⟨rfl,rfl,rfl,rfl⟩:=h;exact k
   ·cases h
theorem b0v{lt l:List Nat}(h:goD E N n0 Q ops ef so K lt l sl hp=some G)(q:G):awM E ops ef so (kQ E N n0 Q K .normal) l ⟨sl,hp⟩:=by
 unfold goD at h
 split at h
 ·rename_i hd
  exact b0m hd (b0n (go_sound a3r h q:kQ E N n0 Q K .normal _))
 ·rename_i hd
  cases h
  exact b0m hd q
 ·cases h
theorem Ge{id:Nat}{l:Array Oper}(hd:a2l N l.toList=true)(ho:c6A l [] []=true)(h:goD E N n0 Q l [] [] K [] (a8A l.toList.length 0) sl hp=some G)(q:G):AWp E N n0 (.region id l true) (kQ E N n0 Q K) ⟨sl,hp⟩ :=
 a0p (l:=l.toList) _ _ hd ho (b0v h q)
section
variable{d i:Nat}{ty:TypeId}{pos:String}{after:Array Edge}{g:Option (Nat × Bool)}{rest:List Nat}
variable{f:Operand}{args:List Operand}{tys:Array TypeId}{k:FuncId}{cap aa:List AV}{r r2:AV}
theorem GQ(hc:a0b E k aa hp fun r' H'=>r'=r/\H'=hp)(hi:ops[i]?=some ⟨some d,.call ⟨.value f,args.toArray,tys⟩,ty,pos,after,g⟩)(hw:a0H ops ⟨some d,.call ⟨.value f,args.toArray,tys⟩,ty,pos,after,g⟩ sl=some true)(he:(ef.contains i,so.contains i)=(false,false))
  (hf:evF E (a4w ⟨some d,.call ⟨.value f,args.toArray,tys⟩,ty,pos,after,g⟩) (get sl) f=.clo (.func k) [] cap) (ha:args.map (evF E (a4w ⟨some d,.call ⟨.value f,args.toArray,tys⟩,ty,pos,after,g⟩) (get sl))++cap=aa) (hn:nv r=some r2)
  (h:goD E N n0 Q ops ef so K [] rest ((d,r2)::sl) hp=some G) (q:G):awM E ops ef so (kQ E N n0 Q K .normal) (i::rest) ⟨sl,hp⟩:=by
 subst ha
 simp only [Prod.mk.injEq] at he
 obtain rfl:=a6q hn
 simp only [awM,hi,hw,he.1,he.2,Bool.false_eq_true,if_false]
 exact ⟨r,a1c (fun _=>rfl) hf hc,b0v h q⟩
end
theorem Gu{o:Oper}{rest:List Oper}{d:Nat}{b:Bool}{G1 G2:Prop}(hg:b4u ops o=some d)(hb:get sl d=.bool b)(h1:go E N n0 Q b3v 1000 (.rg ops (o::rest)) K [d] ((d,.bool true)::sl) hp=some G1)
  (h2:go E N n0 Q b3v 1000 (.rg ops (o::rest)) K [d] ((d,.bool false)::sl) hp=some G2) (q:(b=true->G1)/\(b=false->G2)):a1p E ops (o::rest) (kQ E N n0 Q K .normal) ⟨sl,hp⟩ :=
 b1m hg hb (fun e=>(go_sound a3r h1 (q.1 e):a1p E ops _ _ _)) (fun e=>(go_sound a3r h2 (q.2 e):a1p E ops _ _ _))
end
end Go.Abs
