/- The stream of a region, by the program. Joined texts, each with what its own name promises; no condition beyond those stated. -/
import Derived.Test.YtkmmdlicifiknaaGreatDoorCC
import Derived.Test.YtkmmdlicifiknaaGreatDoorCI
import Derived.Test.YtkmmdlicifiknaaGreatDoorCG
set_option maxHeartbeats 0
set_option maxRecDepth 100000
set_option linter.all false
namespace Go.Abs
def a9R(v:Dv)(seq:Nat):Nat->Nat->List UInt8
 | 0,_=>[]
 | n+1,s=>if v.check (s:Int)≠0 then [] else match a2A 2 seq s ((v.image.drop (s*64)).take 64) with
  | none=>[]
  | some p=>p++a9R v seq n (s+1)
theorem c0M(v:Dv)(l:La)(o:List UInt8):HOk 5 (a0K v++[some (.cells [.int .i64 l.id,.int .i64 l.ver,.int .i64 l.rs,.int .i64 l.regs] 23),some (.arr (o.map u8A) 5)]):=fun j o' ho=>by
 match j,ho with
 | 0,ho=>cases ho;exact ⟨by simp [a0d],by simp [a0d],trivial,trivial,trivial,trivial⟩
 | 1,ho=>cases ho;exact a0h fun _=>a0k
 | 2,ho=>cases ho;exact ⟨by rw [List.map_map];exact a0h fun _=>trivial,by rw [List.map_map];exact a0h fun p=>(a0h (f:=u8A) fun _=>a0k:a0e _ (p.2.map u8A))⟩
 | 3,ho=>cases ho;exact ⟨trivial,trivial,trivial,trivial,trivial⟩
 | 4,ho=>cases ho;exact a0h fun _=>a0k
attribute [local irreducible] a0z a1p AWp Nx awM
theorem c0i(X:Nat->Prop)(v:Dv)(hv:v.Inv)(l:La)(slot:Int)(seq most:Nat)(h:a2i l slot)(hmo:(most:Int)<=(l.rs - 1)*59)(hs1:1<=seq)(hs2:seq<=281474976710655) :
  a0b (E0 X) 73 [.ptr 0 0,laA l,.int .i64 slot,.int .i64 (seq:Int),.int .i64 (most:Int)] (a0K v) (fun r H'=>r=.tup [.sl 1 ((a9R v seq ((most+58) / 59) ((74+slot*l.rs).toNat+1)).map u8A),.bool true]/\H'=a0K v):=by
 have hlv:v.image.length<=1073741824:=by have:=hv.load.2.2;omega
 refine a0b.cutDv ?_ ⟨a0h fun _=>a0k,trivial,trivial⟩
 have hfc:=fun X=>b1u X l slot
 obtain ⟨hf,h0,h1⟩:=h
 have hm:=a2y hf h0 h1
 have hr:=a1z hf
 rw [show a1b l slot=74+slot*l.rs from if_pos ⟨hf,h0,h1⟩] at hfc
 obtain ⟨N,hN⟩:∃N,N=(most+58) / 59:=⟨_,rfl⟩
 rw [<- hN]
 have hN1:N<=l.rs.toNat - 1:=by omega
 obtain ⟨F,hF⟩:=Int.eq_ofNat_of_zero_le (show 0<=74+slot*l.rs by omega)
 rw [hF] at hfc
 rw [hF,Int.toNat_natCast]
 have hF2:F<=32842:=by omega
 have wr:∀x:Int,0<=x->x<=1000000->IntKind.i64.wrap x=x:=fun x a b=>a0r (by omega) (by omega)
 have hn1:¬ (F:Int)<0:=by omega
 have hn2:¬ (seq:Int)<1:=by omega
 have hn3:¬ (281474976710655:Int)<(seq:Int):=by omega
 generalize htot:a9R v seq (N) (F+1)=tot
 show a0b (E0 X) 73 [.ptr 0 0,.agg [.int .i64 l.id,.int .i64 l.ver,.int .i64 l.rs,.int .i64 l.regs],.int .i64 slot,.int .i64 (seq:Int),.int .i64 (most:Int)] (a0K v) _
 refine Z0 Proofs.Tryz.func73 rfl Proofs.Tryz.ntmps73 (by kernel_rfl) rfl ?_
 repeat' (first|refine Zs rfl ?_|refine Zc rfl ?_|refine Qa rfl ?_)
 refine Cn rfl (a0f (E:=E0 X) (fun X=>hfc X) (by simp [a0e,a0d]) _) rfl rfl ?_
 repeat' (first|refine Zs rfl ?_|refine Zc rfl ?_)
 rw [decide_eq_false hn1]
 skip
 rw [decide_eq_false hn2]
 repeat' (first|refine Zs rfl ?_|refine Zh ?_|refine Qs ?_)
 rw [decide_eq_false hn3]
 repeat' (first|refine Zs rfl ?_|refine Zc rfl ?_)
 rw [wr _ (by omega) (by omega)]
 refine a0s (fun p:Nat × List UInt8=>⟨[(0,.ptr 0 0),(3,.int .i64 (seq:Int)),(4,.int .i64 (most:Int)),(6,.ptr 3 0),(12,.int .i64 (F:Int)),(13,.own 4 0 p.2.length),(14,.int .i64 ((F+1+p.1:Nat):Int))],a0K v++[some (.cells [.int .i64 l.id,.int .i64 l.ver,.int .i64 l.rs,.int .i64 l.regs] 23),some (.arr (p.2.map u8A) 5)]⟩)
  (fun p=>p.1<=N/\p.2.length=59*p.1/\p.2++a9R v seq (N - p.1) (F+1+p.1)=tot) (fun p=>N - p.1) (0,[]) ⟨Nat.zero_le _,rfl,htot⟩ ?_ ?_
 ·exact Imp.trans (imp_nil 13 5 rfl) (kk 5 (c0M v l []) rfl (by simp [a0d,a0e]))
 rintro ⟨i,out⟩ ⟨hi0,hol0,hr20⟩
 have hi:i<=N:=hi0
 have hol:out.length=59*i:=hol0
 have hr2:out++a9R v seq (N - i) (F+1+i)=tot:=hr20
 clear hi0 hol0 hr20
 show AWp _ _ _ _ _ ⟨[(0,.ptr 0 0),(3,.int .i64 (seq:Int)),(4,.int .i64 (most:Int)),(6,.ptr 3 0),(12,.int .i64 (F:Int)),(13,.own 4 0 out.length),(14,.int .i64 ((F+1+i:Nat):Int))],a0K v++[some (.cells [.int .i64 l.id,.int .i64 l.ver,.int .i64 l.rs,.int .i64 l.regs] 23),some (.arr (out.map u8A) 5)]⟩
 repeat' (first|refine Zs rfl ?_|refine Zc rfl ?_)
 rw [wr ((F:Int)+l.rs) (by omega) (by omega)]
 by_cases hlt:i<N
 ·rw [decide_eq_true (show ((F+1+i:Nat):Int)<(F:Int)+l.rs by omega)]
  repeat' (first|refine Zs rfl ?_|refine Zh ?_|refine Qs ?_)
  rw [decide_eq_true (show (out.length:Int)<(most:Int) by omega)]
  repeat' (first|refine Zs rfl ?_|refine Zc rfl ?_|refine Qa rfl ?_)
  have hst:a9R v seq (N - i) (F+1+i)=if v.check ((F+1+i:Nat):Int)≠0 then [] else match a2A 2 seq (F+1+i) ((v.image.drop ((F+1+i)*64)).take 64) with
    | none=>[]
    | some p=>p++a9R v seq (N - (i+1)) (F+1+(i+1)):=by
   have e:N - i=(N - (i+1))+1:=by omega
   rw [e];rfl
  have hrd:=a6t X v ((F+1+i:Nat):Int) hlv [] [some (.cells [.int .i64 l.id,.int .i64 l.ver,.int .i64 l.rs,.int .i64 l.regs] 23),some (.arr (out.map u8A) 5)] 0 rfl
  rw [Int.toNat_natCast] at hrd
  have hci:=a5t hv (i:=((F+1+i:Nat):Int))
  have hSw:IntKind.i64.wrap (((F+1+i:Nat):Int)+1)=((F+1+(i+1):Nat):Int):=a0x (by omega) (by omega) (by omega)
  have hSb:F+1+i<1048576:=by omega
  have hmeas:N - (i+1)<N - i:=Nat.sub_lt_sub_left hlt (Nat.lt_succ_self i)
  have hi1:i+1<=N:=hlt
  have hol1:out.length+59=59*(i+1):=by rw [hol,Nat.mul_succ]
  by_cases hc:v.check ((F+1+i:Nat):Int)=0
  ·obtain ⟨-,k,hk,hk2⟩:=hci hc
   have hkk:k=F+1+i:=by omega
   subst hkk
   rw [if_neg (by rw [hc];simp)] at hst
   have hbl:((v.image.drop ((F+1+i)*64)).take 64).length=64:=by simp;omega
   generalize (v.image.drop ((F+1+i)*64)).take 64=bb at *
   have hde:=fun X=>b2U X 2 seq (F+1+i) bb ⟨by decide,by decide,hSb⟩ (by omega) (by omega)
   generalize hS:F+1+i=S at *
   refine a1c (fun _=>rfl) rfl ?_
   refine a0b.mono hrd ?_
   rintro r H' (⟨hc2,-,-⟩|⟨-,rfl,rfl⟩)
   ·exact absurd hc hc2
   refine nx rfl rfl ?_
   repeat' (first|((refine Qa rfl ?_);(first|refine Q0 ?_|refine Q1 ?_|refine QC rfl rfl ?_);(refine QX rfl rfl ?_))|refine Qh ?_)
   refine a2j ?_
   cases hd:a2A 2 seq S bb with
   | none =>
    rw [hd] at hst
    have ho:out=tot:=by rw [<- hr2,hst,List.append_nil]
    rw [<- ho]
    refine a0t (Imp.trans (a0N (id:=5) (k:=1) (es:=bb.map u8A) (e:=5) rfl rfl rfl) (Imp.trans (a0N (id:=4) (k:=1) (es:=out.map u8A) (e:=5) rfl rfl rfl) (a0j 3 (Nat.le_refl _) (a1n v) rfl (by simp [a0K,b5a])
     (sl':=[(3,.int .i64 (seq:Int)),(13,.sl 1 (out.map u8A)),(14,.int .i64 (S:Int)),(15,.sl 1 (bb.map u8A)),(16,.int .i64 0)]) ?_))) ?_
    ·repeat' (first|exact a0l|refine a0a ⟨?_,?_⟩ ?_)
     all_goals (try first|exact rfl|exact trivial|exact a0h fun _=>a0k)
     ·show frz 4 1 (out.map u8A) (frz 5 1 (bb.map u8A) (.own 4 0 out.length))=_
      simp [frz,List.take_of_length_le]
     ·show frz 4 1 (out.map u8A) (frz 5 1 (bb.map u8A) (.own 5 0 64))=_
      simp [frz,hbl,List.take_of_length_le]
    repeat' (first|refine Zs rfl ?_|refine Zc rfl ?_|refine Qa rfl ?_)
    refine Ck (fun _=>rfl) rfl (a0f (E:=E0 X) (fun X=>hde X) (by simp [a0e,a0d]) _) ?_
    refine nx0 ?_
    rw [hd]
    repeat' (first|refine Zs rfl ?_|refine Zc rfl ?_|refine Zh ?_|refine Qs ?_)
    exact a0c ⟨_,rfl,rfl,rfl⟩
   | some p =>
    have hpl:=(a2e hd).1
    rw [hd] at hst
    refine a0t (Imp.trans (a0N (id:=5) (k:=1) (es:=bb.map u8A) (e:=5) rfl rfl rfl) (a0j 5 (by simp [a0K]) (c0M v l out) rfl (by simp [a0K,b5a])
     (sl':=[(0,.ptr 0 0),(3,.int .i64 (seq:Int)),(4,.int .i64 (most:Int)),(6,.ptr 3 0),(12,.int .i64 (F:Int)),(13,.own 4 0 out.length),(14,.int .i64 (S:Int)),(15,.sl 1 (bb.map u8A)),(16,.int .i64 0)]) ?_)) ?_
    ·repeat' (first|exact a0l|refine a0a ⟨?_,?_⟩ ?_)
     all_goals (try first|exact rfl|exact trivial|exact a0h (fun _=>a0k)|(simp [a0d,a0e];done))
     ·show frz 5 1 (bb.map u8A) (.own 5 0 64)=_
      simp [frz,hbl,List.take_of_length_le]
    repeat' (first|refine Zs rfl ?_|refine Zc rfl ?_|refine Qa rfl ?_)
    refine Ck (fun _=>rfl) rfl (a0f (E:=E0 X) (fun X=>hde X) (by simp [a0e,a0d]) _) ?_
    refine nx0 ?_
    rw [hd]
    repeat' (first|refine Zs rfl ?_|refine Zc rfl ?_|refine Qa rfl ?_)
    refine a0V (oid:=some 4) (es:=out.map u8A) (out:=(out++p).map u8A) (n:=out.length+59) (a0M rfl (List.length_map _).symm) (rfl) (a0P _) (by rw [List.map_append]) (by rw [List.length_map,List.length_map,hpl]) (by show _<=9223372036854775807;omega) (by show _*1<=_;omega) rfl rfl rfl rfl rfl rfl rfl rfl ?_
    refine nx rfl rfl ?_
    repeat' (first|refine Zs rfl ?_|refine Zc rfl ?_|refine Zh ?_|refine Qs ?_)
    refine ⟨(i+1,out++p),⟨hi1,by show (out++p).length=59*(i+1);rw [List.length_append,hpl];exact hol1,by show (out++p)++a9R v seq (N - (i+1)) (F+1+(i+1))=tot;rw [<- hr2,hst,List.append_assoc]⟩,hmeas,?_⟩
    refine a0S 4 [5] (H':=a0K v++[some (.cells [.int .i64 l.id,.int .i64 l.ver,.int .i64 l.rs,.int .i64 l.regs] 23),some (.arr ((out++p).map u8A) 5)]) (os:=[.arr ((out++p).map u8A) 5]) ?_ ?_ ?_ ?_ ?_ rfl ?_ ?_ ?_
    ·simp [a0K]
    ·simp [a0K]
    ·simp
    ·simp
    ·intro j o ho2
     match j,ho2 with
     | 0,ho2=>cases ho2;exact ⟨by simp [a0d],by simp [a0d],trivial,trivial,trivial,trivial⟩
     | 1,ho2=>cases ho2;exact a0h fun _=>a0k
     | 2,ho2=>cases ho2;exact ⟨by rw [List.map_map];exact a0h fun _=>trivial,by rw [List.map_map];exact a0h fun p=>(a0h (f:=u8A) fun _=>a0k:a0e _ (p.2.map u8A))⟩
     | 3,ho2=>cases ho2;exact ⟨trivial,trivial,trivial,trivial,trivial⟩
    ·rfl
    ·refine a0a (a0v rfl (by simp [a0d])) (a0a (a0v rfl trivial) (a0a (a0v rfl trivial) (a0a (a0v rfl (by simp [a0d])) (a0a (a0v rfl trivial) (a0a ?_ (a0a (a0v ?_ trivial) a0l))))))
     ·rw [show (out++p).length=out.length+59 by rw [List.length_append,hpl]]
      exact a0L rfl
     ·exact congrArg (AV.int .i64) hSw
    ·exact a0E rfl (a0A 4 a2m (a0h fun _=>a0k)) a0T
  rw [if_pos hc] at hst
  have ho:out=tot:=by rw [<- hr2,hst,List.append_nil]
  rw [<- ho]
  refine a1c (fun _=>rfl) rfl ?_
  refine a0b.mono hrd ?_
  rintro r H' (⟨-,rfl,rfl⟩|⟨hc2,-,-⟩)
  rotate_left
  ·exact absurd hc2 hc
  refine nx rfl rfl ?_
  repeat' (first|refine Zs rfl ?_|refine Zc rfl ?_|refine Zh ?_|refine Qs ?_)
  refine a0g rfl (fun h4=>?_) (fun h4=>?_)
  rotate_left
  ·exact absurd (by omega) hc
  repeat' (first|refine Zs rfl ?_|refine Zc rfl ?_|refine Zh ?_|refine Qs ?_)
  refine a0t (Imp.trans (a0N (id:=4) (k:=1) (es:=out.map u8A) (e:=5) rfl rfl rfl) (a0j 3 (Nat.le_refl _) (a1n v) rfl (by simp [a0K]) (sl':=[(10,.sl 1 (out.map u8A)),(11,.bool true)]) ?_)) ?_
  ·refine a0a ⟨?_,a0h fun _=>a0k⟩ (a0a ⟨rfl,trivial⟩ a0l)
   show frz 4 1 (out.map u8A) (.own 4 0 out.length)=_
   simp [frz,List.take_of_length_le]
  exact a0c ⟨_,rfl,rfl,rfl⟩
 have hz:a9R v seq (N - i) (F+1+i)=[]:=by
  rw [show N - i=0 by omega];rfl
 have ho:out=tot:=by rw [<- hr2,hz,List.append_nil]
 rw [<- ho]
 by_cases hg:i<l.rs.toNat - 1
 ·rw [decide_eq_true (show ((F+1+i:Nat):Int)<(F:Int)+l.rs by omega)]
  repeat' (first|refine Zs rfl ?_|refine Zh ?_|refine Qs ?_)
  rw [decide_eq_false (show ¬ (out.length:Int)<(most:Int) by omega)]
  repeat' (first|refine Zs rfl ?_|refine Zc rfl ?_|refine Zh ?_|refine Qs ?_)
  refine a0t (Imp.trans (a0N (id:=4) (k:=1) (es:=out.map u8A) (e:=5) rfl rfl rfl) (a0j 3 (Nat.le_refl _) (a1n v) rfl (by simp [a0K]) (sl':=[(10,.sl 1 (out.map u8A)),(11,.bool true)]) ?_)) ?_
  ·refine a0a ⟨?_,a0h fun _=>a0k⟩ (a0a ⟨rfl,trivial⟩ a0l)
   show frz 4 1 (out.map u8A) (.own 4 0 out.length)=_
   simp [frz,List.take_of_length_le]
  exact a0c ⟨_,rfl,rfl,rfl⟩
 rw [decide_eq_false (show ¬ ((F+1+i:Nat):Int)<(F:Int)+l.rs by omega)]
 repeat' (first|refine Zs rfl ?_|refine Zc rfl ?_|refine Zh ?_|refine Qs ?_)
 refine a0t (Imp.trans (a0N (id:=4) (k:=1) (es:=out.map u8A) (e:=5) rfl rfl rfl) (a0j 3 (Nat.le_refl _) (a1n v) rfl (by simp [a0K]) (sl':=[(10,.sl 1 (out.map u8A)),(11,.bool true)]) ?_)) ?_
 ·refine a0a ⟨?_,a0h fun _=>a0k⟩ (a0a ⟨rfl,trivial⟩ a0l)
  show frz 4 1 (out.map u8A) (.own 4 0 out.length)=_
  simp [frz,List.take_of_length_le]
 exact a0c ⟨_,rfl,rfl,rfl⟩
theorem c0h(X:Nat->Prop)(v:Dv)(hv:v.Inv)(l:La)(slot:Int)(seq:Nat)(h:a2i l slot)(hs1:1<=seq)(hs2:seq<=281474976710655) :
  a0b (E0 X) 73 [.ptr 0 0,laA l,.int .i64 slot,.int .i64 (seq:Int),.int .i64 (c0D l)] (a0K v) (fun r H'=>r=.tup [.sl 1 ((a9R v seq (l.rs.toNat - 1) ((74+slot*l.rs).toNat+1)).map u8A),.bool true]/\H'=a0K v):=by
 have hr:=a1z h.1
 have hm:=c0i X v hv l slot seq (59*(l.rs.toNat - 1)) h (by omega) hs1 hs2
 rw [show (59*(l.rs.toNat - 1)+58) / 59=l.rs.toNat - 1 by omega,show ((59*(l.rs.toNat - 1):Nat):Int)=c0D l from by rw [show c0D l=(l.rs - 1)*59 from if_pos h.1];omega] at hm
 exact hm
def b1c(ver:Int)(seq off:Nat)(b:List UInt8)(kd kl vl ex:Nat):Option Rec :=
 if 65536<vl\/b.length<16+kl+vl then none
 else if a4i ver ⟨(kd:Int),(b.drop 16).take kl,(b.drop (16+kl)).take vl,(ex:Int)⟩=0/\a4a ver seq off ⟨(kd:Int),(b.drop 16).take kl,(b.drop (16+kl)).take vl,(ex:Int)⟩=b.take (16+kl+vl)
  then some ⟨(kd:Int),(b.drop 16).take kl,(b.drop (16+kl)).take vl,(ex:Int)⟩ else none
def a5v(ver:Int)(seq off:Nat)(b:List UInt8):Option Rec :=
 if b.length<16 then none
 else if ver=1 then b1c ver seq off b (a0J ((b.drop 1).take 1)) (a0J ((b.drop 2).take 1)) (a0J ((b.drop 4).take 4)) (a0J ((b.drop 8).take 4))
 else b1c ver seq off b (a0J ((b.drop 2).take 1) / 16) (a0J ((b.drop 1).take 1)) (a0J ((b.drop 3).take 3)) (a0J ((b.drop 7).take 5))
def c2D:Option Rec->AV
 | none=>.tup [.agg [.int .i64 0,.nils,.nils,.int .i64 0],.int .i64 0,.bool false]
 | some r=>.tup [a5X r,.int .i64 (a1M r:Int),.bool true]
theorem b3C(o:Option Rec){n:Nat}:a0d n (c2D o):=by
 cases o with
 | none=>exact ⟨⟨trivial,trivial,trivial,trivial,trivial⟩,trivial,trivial,trivial⟩
 | some r=>exact ⟨a2x,trivial,trivial,trivial⟩
theorem b1t(b:List UInt8)(lo w:Nat)(h:lo+w<=11):((((b.drop 1).take 11).drop lo).take w)=(b.drop (1+lo)).take w:=by
 rw [List.drop_take,List.take_take,List.drop_drop,Nat.min_eq_left (by omega)]
theorem b2Q{ver:Int}{seq off:Nat}{b:List UInt8}{kd kl vl ex:Nat}{r:Rec}(h:b1c ver seq off b kd kl vl ex=some r):a1M r<=b.length/\a4i ver r=0/\a4a ver seq off r=b.take (a1M r):=by
 unfold b1c at h
 split at h
 ·cases h
 rename_i h1
 split at h
 ·rename_i h2
  injection h with h
  subst h
  have e1:a1M ⟨(kd:Int),(b.drop 16).take kl,(b.drop (16+kl)).take vl,(ex:Int)⟩=16+kl+vl:=by
   simp only [a1M,List.length_take,List.length_drop];omega
  exact ⟨by omega,h2.1,by rw [e1];exact h2.2⟩
 ·cases h
theorem a6Z{ver:Int}{seq off:Nat}{b:List UInt8}{r:Rec}(h:a5v ver seq off b=some r):a1M r<=b.length/\a4i ver r=0/\a4a ver seq off r=b.take (a1M r):=by
 unfold a5v at h
 split at h
 ·cases h
 split at h
 ·exact b2Q h
 ·exact b2Q h
theorem num_1{bs:List UInt8}{lo:Nat}:a0J ((bs.drop lo).take 1)<=255:=by
 have h1:=a9s ((bs.drop lo).take 1)
 have h2:((bs.drop lo).take 1).length<=1:=by simp;omega
 have hp:256 ^ ((bs.drop lo).take 1).length<=256 ^ 1:=Nat.pow_le_pow_right (by decide) h2
 omega
theorem c4F(X:Nat->Prop)(bs:List UInt8)(lo w:Nat)(hw:1<=w)(hw6:w<=6)(h:lo+w<=bs.length)(hb:bs.length<=1000) :
  a0b (E0 X) 145 [.int .i64 (w:Int),.fp [.ptr 1 0]] (a2r bs lo) (fun r H'=>r=.int .i64 (a0J ((bs.drop lo).take w):Int)/\H'=a2r bs (lo+w)):=by
 have s1:=a0U (bs:=bs) (lo:=lo) (w:=w) hw6
 have c1:=b6H X bs lo w hw (by omega) h hb
 generalize a0J ((bs.drop lo).take w)=n at *
 refine Z0 Proofs.Tryz.func145 rfl Proofs.Tryz.ntmps145 (by kernel_rfl) rfl ?_
 repeat' (first|refine Zs rfl ?_|refine Zc rfl ?_|refine Qa rfl ?_)
 refine Cn rfl (c1) rfl rfl ?_
 repeat' (first|refine Zs rfl ?_|refine Zh ?_|refine Qs ?_)
 refine a0c ⟨_,rfl,?_,?_⟩
 ·exact congrArg (AV.int .i64) (a3i s1)
 ·rfl
theorem c2B(X:Nat->Prop)(bs:List UInt8)(lo w:Nat)(hw:1<=w)(hw6:w<=6)(h:lo+w<=bs.length)(hb:bs.length<=1000)(L R:Hp)(s:Nat)(hs:L.length=s) :
  a0b (E0 X) 145 [.int .i64 (w:Int),.fp [.ptr (1+s) 0]] (L++a6V bs s lo++R) (fun r H'=>r=.int .i64 (a0J ((bs.drop lo).take w):Int)/\H'=L++a6V bs s (lo+w)++R):=by
 subst hs
 have hm:∀lo,a1T (sh L.length R.length 2) (a2r bs lo)=a6V bs L.length lo:=fun lo=>a2Y _ 0 L.length bs lo (by simp [sh])
 refine a0b.conv (a0b.frameLR (E:=E0 X) (fun X=>c4F X bs lo w hw hw6 h hb) L R (a4I bs lo) ⟨trivial,⟨by simp [a0d,a2r],trivial⟩,trivial⟩ (a3N bs lo)) ?_ (by rw [show (a2r bs lo).length=2 from rfl,hm]) ?_
 ·simp [rnL,rnA,sh,a2r]
 rintro q H' ⟨r1,h',⟨rfl,rfl⟩,-,rfl,rfl⟩
 refine ⟨rfl,?_⟩
 show L++a1T (sh L.length R.length 2) (a2r bs (lo+w))++R++[]=_
 rw [hm,List.append_nil]
theorem a6M(X:Nat->Prop)(b:List UInt8)(lo w p:Nat)(hp:p=1+lo)(hw:1<=w)(hw6:w<=6)(h:lo+w<=11)(hb:12<=b.length)(L R:Hp)(s:Nat)(hs:L.length=s) :
  a0b (E0 X) 145 [.int .i64 (w:Int),.fp [.ptr (1+s) 0]] (L++a6V ((b.drop 1).take 11) s lo++R) (fun r H'=>r=.int .i64 (a0J ((b.drop p).take w):Int)/\H'=L++a6V ((b.drop 1).take 11) s (lo+w)++R):=by
 have hl:((b.drop 1).take 11).length=11:=by simp;omega
 have:=c2B X ((b.drop 1).take 11) lo w hw hw6 (by omega) (by omega) L R s hs
 rw [b1t b lo w h,<- hp] at this
 exact this
def zR:AO:=.cells [.int .i64 0,.nils,.nils,.int .i64 0] 72
theorem c4i(bs:List UInt8)(lo:Nat):HOk 3 [some zR,some (.arr (bs.map u8A) 5),some (b4F bs 1 lo)]:=fun j o ho=>by
 match j,ho with
 | 0,ho=>cases ho;exact ⟨trivial,trivial,trivial,trivial,trivial⟩
 | 1,ho=>cases ho;exact a0h fun _=>a0k
 | 2,ho=>cases ho;exact ⟨by simp [a0d],trivial,trivial⟩
theorem b6h(bs:List UInt8)(lo:Nat)(a c:Int):HOk 4 [some zR,some (.arr (bs.map u8A) 5),some (b4F bs 1 lo),some (.cells [.int .i64 a,.nils,.nils,.int .i64 c] 72)]:=fun j o ho=>by
 match j,ho with
 | 0,ho=>cases ho;exact ⟨trivial,trivial,trivial,trivial,trivial⟩
 | 1,ho=>cases ho;exact a0h fun _=>a0k
 | 2,ho=>cases ho;exact ⟨by simp [a0d],trivial,trivial⟩
 | 3,ho=>cases ho;exact ⟨trivial,trivial,trivial,trivial,trivial⟩
theorem c0W(X:Nat->Prop)(ver:Int)(seq off:Nat)(b:List UInt8)(hs:seq<9223372036854775808)(ho:off<=2147483647)(hb:b.length<=1000000) :
  a0b (E0 X) 99 [.int .i64 ver,.int .i64 (seq:Int),.int .i64 (off:Int),.sl 1 (b.map u8A)] [] (fun r H'=>r=c2D (a5v ver seq off b)/\H'=[]):=by
 refine a0b.cut0 ?_ (b3C _)
 have hbm:(b.map u8A).length=b.length:=List.length_map _
 refine Z0 Proofs.Tryz.func99 rfl Proofs.Tryz.ntmps99 (by kernel_rfl) rfl ?_
 repeat' (first|refine Zs rfl ?_|refine Zc rfl ?_|refine Zh ?_|refine Qs ?_)
 by_cases h1:b.length<16
 ·rw [decide_eq_true (show ((b.map u8A).length:Int)<16 by omega)]
  have e:a5v ver seq off b=none:=if_pos h1
  rw [e]
  repeat' (first|refine Zs rfl ?_|refine Zc rfl ?_|refine Zh ?_|refine Qs ?_)
  exact a0c ⟨_,rfl,rfl⟩
 rw [decide_eq_false (show ¬ ((b.map u8A).length:Int)<16 by omega)]
 have hl11:((b.drop 1).take 11).length=11:=by simp;omega
 obtain ⟨kd,kl,vl,ex,hkl,hvl,hdec,c1,c2⟩:∃kd kl vl ex:Nat,kl<=255/\vl<=281474976710655/\a5v ver seq off b=b1c ver seq off b kd kl vl ex /\
   (ver=1->a0J ((b.drop 1).take 1)=kd/\a0J ((b.drop 2).take 1)=kl/\a0J ((b.drop 4).take 4)=vl/\a0J ((b.drop 8).take 4)=ex) /\
   (¬ ver=1->a0J ((b.drop 2).take 1) / 16=kd/\a0J ((b.drop 1).take 1)=kl/\a0J ((b.drop 3).take 3)=vl/\a0J ((b.drop 7).take 5)=ex):=by
  by_cases h2:ver=1
  ·exact ⟨_,_,_,_,num_1,a0U (by decide),by unfold a5v;rw [if_neg h1,if_pos h2],fun _=>⟨rfl,rfl,rfl,rfl⟩,fun h=>absurd h2 h⟩
  ·exact ⟨_,_,_,_,num_1,a0U (by decide),by unfold a5v;rw [if_neg h1,if_neg h2],fun h=>absurd h h2,fun _=>⟨rfl,rfl,rfl,rfl⟩⟩
 have p1:=fun R=>a6M X b 0 1 1 rfl (by decide) (by decide) (by decide) (by omega) [some zR] R 1 rfl
 have p2:=fun R=>a6M X b 1 1 2 rfl (by decide) (by decide) (by decide) (by omega) [some zR] R 1 rfl
 have p3:=fun R=>a6M X b 2 1 3 rfl (by decide) (by decide) (by decide) (by omega) [some zR] R 1 rfl
 have p4:=fun R=>a6M X b 3 4 4 rfl (by decide) (by decide) (by decide) (by omega) [some zR] R 1 rfl
 have p5:=fun R=>a6M X b 7 4 8 rfl (by decide) (by decide) (by decide) (by omega) [some zR] R 1 rfl
 have q3:=fun R=>a6M X b 2 3 3 rfl (by decide) (by decide) (by decide) (by omega) [some zR] R 1 rfl
 have q4:=fun R=>a6M X b 5 1 6 rfl (by decide) (by decide) (by decide) (by omega) [some zR] R 1 rfl
 have q5:=fun R=>a6M X b 6 5 7 rfl (by decide) (by decide) (by decide) (by omega) [some zR] R 1 rfl
 rw [hdec]
 clear hdec
 have hnr:=fun H x hx=>a9r X ((b.drop 1).take 11) (by omega) H x hx
 have hn16:=num_1 (bs:=b) (lo:=2)
 repeat' (first|refine Zs rfl ?_|refine Zc rfl ?_|refine Qa rfl ?_)
 refine a1f (l:=1) (h:=12) (ys:=(b.drop 1).take 11) (a0q rfl rfl) (a0q rfl rfl) (by omega) (by omega) (by rw [List.drop_take]) rfl rfl rfl rfl rfl ?_
 refine nx rfl rfl ?_
 generalize (b.drop 1).take 11=hd at *
 repeat' (refine Qa rfl ?_)
 refine Cn rfl (hnr _ _ rfl) rfl rfl ?_
 repeat' (first|((refine Qa rfl ?_);(refine QJ rfl rfl ?_);(refine QX rfl rfl ?_))|(refine Qb rfl ?_;try (refine QS rfl rfl rfl rfl rfl rfl rfl ?_;(refine QX rfl rfl ?_)))|refine Qh ?_)
 refine a2j ?_
 refine a0t (a0w (id:=3) (cs:=[.ptr 2 0]) rfl) ?_
 refine Kc [0,1,2,3,8,11] 3 (c4i hd 0) rfl rfl (by simp [a0d,a0e]) ?_
 repeat' (first|refine Zs rfl ?_|refine Zc rfl ?_|refine Zh ?_|refine Qs ?_)
 refine a2T (s1:=⟨[(0,.int .i64 ver),(1,.int .i64 (seq:Int)),(2,.int .i64 (off:Int)),(3,.sl 1 (b.map u8A)),(8,.ptr 0 0),(13,.ptr 3 0),(14,.int .i64 (kl:Int)),(15,.int .i64 (vl:Int))],[some zR,some (.arr (hd.map u8A) 5),some (b4F hd 1 11),some (.cells [.int .i64 (kd:Int),.nils,.nils,.int .i64 (ex:Int)] 72)]⟩) ?_ ?_
 ·refine a0g rfl (fun h2=>?_) (fun h2=>?_)
  ·obtain ⟨e1,e2,e3,e4⟩:=c1 h2
   rw [e1] at p1
   rw [e2] at p2
   rw [e3] at p4
   rw [e4] at p5
   repeat' (first|refine Zs rfl ?_|refine Zc rfl ?_|refine Qa rfl ?_)
   refine Cn rfl (p1 _) rfl rfl ?_
   repeat' (first|refine Zs rfl ?_|refine Qa rfl ?_)
   refine Cn rfl (p2 _) rfl rfl ?_
   repeat' (first|refine Zs rfl ?_|refine Qa rfl ?_)
   refine Cn rfl (p3 _) rfl rfl ?_
   repeat' (first|refine Zs rfl ?_|refine Qa rfl ?_)
   refine Cn rfl (p4 _) rfl rfl ?_
   repeat' (first|refine Zs rfl ?_|refine Qa rfl ?_)
   refine Cn rfl (p5 _) rfl rfl ?_
   repeat' (first|refine Zs rfl ?_|refine Zh ?_)
   exact ⟨rfl,kk 4 (b6h hd 11 kd ex) rfl (by simp [a0d,a0e])⟩
  obtain ⟨e1,e2,e3,e4⟩:=c2 h2
  rw [e2] at p1
  rw [e3] at q3
  rw [e4] at q5
  generalize a0J ((b.drop 2).take 1)=n16 at *
  have hw16:IntKind.i64.wrap (Int.tdiv (n16:Int) 16)=(kd:Int):=by
   rw [<- e1,show Int.tdiv (n16:Int) 16=((n16 / 16:Nat):Int) from rfl]
   exact a0r (by omega) (by omega)
  repeat' (first|refine Zs rfl ?_|refine Zc rfl ?_|refine Qa rfl ?_)
  refine Cn rfl (p1 _) rfl rfl ?_
  repeat' (first|refine Zs rfl ?_|refine Qa rfl ?_)
  refine Cn rfl (p2 _) rfl rfl ?_
  repeat' (first|refine Zs rfl ?_|refine Qa rfl ?_)
  rw [hw16]
  refine Cn rfl (q3 _) rfl rfl ?_
  repeat' (first|refine Zs rfl ?_|refine Qa rfl ?_)
  refine Cn rfl (q4 _) rfl rfl ?_
  repeat' (first|refine Zs rfl ?_|refine Qa rfl ?_)
  refine Cn rfl (q5 _) rfl rfl ?_
  repeat' (first|refine Zs rfl ?_|refine Zh ?_)
  exact ⟨rfl,kk 4 (b6h hd 11 kd ex) rfl (by simp [a0d,a0e])⟩
 clear p1 p2 p3 p4 p5 q3 q4 q5 c1 c2 hnr hn16
 have w1:IntKind.i64.wrap (16+(kl:Int))=((16+kl:Nat):Int):=a0x (by omega) (by omega) (by omega)
 have w2:IntKind.i64.wrap (((16+kl:Nat):Int)+(vl:Int))=((16+kl+vl:Nat):Int):=a0x (by omega) (by omega) (by omega)
 repeat' (first|refine Zs rfl ?_|refine Zc rfl ?_)
 by_cases h3:65536<vl
 ·rw [decide_eq_true (show (65536:Int)<(vl:Int) by omega)]
  have e:b1c ver seq off b kd kl vl ex=none:=if_pos (.inl h3)
  rw [e]
  repeat' (first|refine Zs rfl ?_|refine Zc rfl ?_|refine Zh ?_|refine Qs ?_)
  exact a0c ⟨_,rfl,rfl⟩
 rw [decide_eq_false (show ¬ (65536:Int)<(vl:Int) by omega)]
 repeat' (first|refine Zs rfl ?_|refine Zh ?_|refine Qs ?_)
 rw [w1,w2]
 by_cases h4:b.length<16+kl+vl
 ·rw [decide_eq_true (show ((b.map u8A).length:Int)<((16+kl+vl:Nat):Int) by omega)]
  have e:b1c ver seq off b kd kl vl ex=none:=if_pos (.inr h4)
  rw [e]
  repeat' (first|refine Zs rfl ?_|refine Zc rfl ?_|refine Zh ?_|refine Qs ?_)
  exact a0c ⟨_,rfl,rfl⟩
 rw [decide_eq_false (show ¬ ((b.map u8A).length:Int)<((16+kl+vl:Nat):Int) by omega)]
 have e:b1c ver seq off b kd kl vl ex=if a4i ver ⟨(kd:Int),(b.drop 16).take kl,(b.drop (16+kl)).take vl,(ex:Int)⟩=0/\a4a ver seq off ⟨(kd:Int),(b.drop 16).take kl,(b.drop (16+kl)).take vl,(ex:Int)⟩=b.take (16+kl+vl)
  then some ⟨(kd:Int),(b.drop 16).take kl,(b.drop (16+kl)).take vl,(ex:Int)⟩ else none:=if_neg (by omega)
 rw [e]
 clear e
 have hk1:((b.drop 16).take kl).length=kl:=by simp;omega
 have hv1:((b.drop (16+kl)).take vl).length=vl:=by simp;omega
 have ck:=fun X=>(a0b.froz 1 (a4D X ((b.drop 16).take kl) (by omega)) (List.length_map _).symm rfl rfl a0X (a0h fun _=>a0k):a0b (E0 X) 45 [.sl 1 (((b.drop 16).take kl).map u8A)] [] (fun r H'=>r=.sl 1 (((b.drop 16).take kl).map u8A)/\H'=[]))
 have cv:=fun X=>(a0b.froz 1 (a4D X ((b.drop (16+kl)).take vl) (by omega)) (List.length_map _).symm rfl rfl a0X (a0h fun _=>a0k):a0b (E0 X) 45 [.sl 1 (((b.drop (16+kl)).take vl).map u8A)] [] (fun r H'=>r=.sl 1 (((b.drop (16+kl)).take vl).map u8A)/\H'=[]))
 repeat' (first|refine Zs rfl ?_|refine Zc rfl ?_)
 refine a0n [12,14] [0,1,2,3,4,5,6,7,8,9,10,11,13] (by exact rfl) ?_
 refine a0y (fuel:=0) [0,1,2,3,4,5,6,7,8,9,10,11,12,13,14] (by exact rfl) (by kernel_rfl) (by kernel_rfl) ?_
 repeat' ((apply Qe rfl rfl rfl rfl;intro H9);(first|refine Q0 ?_|refine Q2 rfl ?_);(exact QY rfl ⟨rfl,rfl⟩))
 rw [w1,w2]
 apply a0O rfl rfl rfl rfl
 ·intro H9
  refine a1f (l:=16) (h:=16+kl) (ys:=(b.drop 16).take kl) (a0q rfl rfl) (a0q rfl rfl) (by omega) (by omega) (by rw [List.drop_take];congr 1;omega) rfl rfl rfl rfl rfl ?_
  exact nx0 ⟨rfl,rfl⟩
 have hlen:a1M ⟨(kd:Int),(b.drop 16).take kl,(b.drop (16+kl)).take vl,(ex:Int)⟩=16+kl+vl:=by simp only [a1M,hk1,hv1]
 generalize (b.drop 16).take kl=key at *
 skip
 apply a0O rfl rfl rfl rfl
 ·intro H9
  refine Ck (fun _=>rfl) rfl (a0f (E:=E0 X) (fun X=>ck X) (by simp [a0e,a0d]) _) ?_
  exact nxs rfl ⟨rfl,rfl⟩
 repeat' ((apply Qe rfl rfl rfl rfl;intro H9);(first|refine Q0 ?_|refine Q2 rfl ?_);(exact QY rfl ⟨rfl,rfl⟩))
 rw [w1]
 apply a0O rfl rfl rfl rfl
 ·intro H9
  refine a1f (l:=16+kl) (h:=16+kl+vl) (ys:=(b.drop (16+kl)).take vl) (a0q rfl rfl) (a0q rfl rfl) (by omega) (by omega) (by rw [List.drop_take];congr 1;omega) rfl rfl rfl rfl rfl ?_
  exact nx0 ⟨rfl,rfl⟩
 generalize (b.drop (16+kl)).take vl=val at *
 skip
 apply a0O rfl rfl rfl rfl
 ·intro H9
  refine Ck (fun _=>rfl) rfl (a0f (E:=E0 X) (fun X=>cv X) (by simp [a0e,a0d]) _) ?_
  exact nxs rfl ⟨rfl,rfl⟩
 repeat' (first|((apply Qe rfl rfl rfl rfl;intro H9);(refine Q4 rfl rfl rfl rfl rfl ?_);(exact QY rfl ⟨rfl,rfl⟩))|(refine Qf rfl rfl rfl ?_;refine QS rfl rfl rfl rfl rfl rfl rfl ?_;(refine QX rfl rfl ?_))|refine Qk ?_|refine Qw (by kernel_rfl) ?_)
 by_cases hc:a4i ver ⟨(kd:Int),key,val,(ex:Int)⟩=0
 ·have hen:=fun X=>c4L X ver seq off ⟨(kd:Int),key,val,(ex:Int)⟩ hc hs ho
  generalize a4a ver seq off ⟨(kd:Int),key,val,(ex:Int)⟩=eb at *
  repeat' (first|refine Zs rfl ?_|refine Zc rfl ?_|refine Qa rfl ?_)
  refine Cn rfl (a0f (E:=E0 X) (fun X=>hen X) (by simp [a0e,a0d]) _) rfl rfl ?_
  repeat' (first|refine Zs rfl ?_|refine Zc rfl ?_|refine Qa rfl ?_)
  refine a1f (l:=0) (h:=16+kl+vl) (ys:=b.take (16+kl+vl)) (a1u) (a0q rfl rfl) (by omega) (by omega) (rfl) rfl rfl rfl rfl rfl ?_
  refine nx rfl rfl ?_
  generalize b.take (16+kl+vl)=bt at *
  repeat' (refine Qa rfl ?_)
  refine Cn rfl (a0f (E:=E0 X) (fun X=>b5q X eb bt) (by simp [a0e,a0d]) _) rfl rfl ?_
  repeat' (first|refine Zs rfl ?_|refine Zh ?_|refine Qs ?_)
  refine a0I rfl (fun h9=>?_) (fun h9=>?_)
  ·have h8:¬ eb=bt:=by simpa using h9
   rw [if_neg (fun h=>h8 h.2)]
   repeat' (first|refine Zs rfl ?_|refine Zc rfl ?_|refine Zh ?_|refine Qs ?_)
   exact a0c ⟨_,rfl,rfl⟩
  have h8:eb=bt:=by simpa using h9
  rw [if_pos ⟨hc,h8⟩]
  repeat' (first|refine Zs rfl ?_|refine Zc rfl ?_|refine Zh ?_|refine Qs ?_)
  refine a0c ⟨_,rfl,?_⟩
  show _=AV.tup [a5X _,.int .i64 (a1M _:Int),.bool true]
  rw [hlen]
  rfl
 have hen:=fun X=>b7o X ver seq off ⟨(kd:Int),key,val,(ex:Int)⟩ hc
 rw [if_neg (fun h=>hc h.1)]
 generalize a4i ver ⟨(kd:Int),key,val,(ex:Int)⟩=e at *
 repeat' (first|refine Zs rfl ?_|refine Zc rfl ?_|refine Qa rfl ?_)
 refine Cn rfl (a0f (E:=E0 X) (fun X=>hen X) (by simp [a0e,a0d]) _) rfl rfl ?_
 repeat' (first|refine Zs rfl ?_|refine Zc rfl ?_)
 rw [decide_eq_true hc]
 repeat' (first|refine Zs rfl ?_|refine Zc rfl ?_|refine Zh ?_|refine Qs ?_)
 exact a0c ⟨_,rfl,rfl⟩
def a4b(ver:Int)(seq:Nat)(b:List UInt8):Nat->Nat->List (Nat × Rec)
 | 0,_=>[]
 | n+1,off=>if b.length<=off then [] else if b[off]?=some 0 then a4b ver seq b n ((off / 59+1)*59) else match a5v ver seq off (b.drop off) with
  | none=>[]
  | some r=>(off,r)::a4b ver seq b n (off+a1M r)
def recs(ver:Int)(seq:Nat)(b:List UInt8):List (Nat × Rec):=a4b ver seq b b.length 0
def foA(p:Nat × Rec):AV:=.agg (.int .i64 (p.1:Int)::.int .i64 (a1M p.2:Int)::c3v p.2)
@[simp] theorem a2f{n:Nat}{p:Nat × Rec}:a0d n (foA p):=⟨trivial,trivial,a2x⟩
theorem b6I{b:List UInt8}{i:Nat}{x:UInt8}(h:b[i]?=some x):a0J ((b.drop i).take 1)=x.toNat:=by
 rw [List.drop_eq_getElem?_toList_append,h]
 simp [a0J]
theorem c0K(a c:Int):HOk 2 [some zR,some (.cells [.int .i64 a,.nils,.nils,.int .i64 c] 72)]:=fun j o ho=>by
 match j,ho with
 | 0,ho=>cases ho;exact ⟨trivial,trivial,trivial,trivial,trivial⟩
 | 1,ho=>cases ho;exact ⟨trivial,trivial,trivial,trivial,trivial⟩
theorem c4e(a c:Int)(key val:List UInt8):HOk 2 [some zR,some (.cells [.int .i64 a,.sl 1 (key.map u8A),.sl 1 (val.map u8A),.int .i64 c] 72)]:=fun j o ho=>by
 match j,ho with
 | 0,ho=>cases ho;exact ⟨trivial,trivial,trivial,trivial,trivial⟩
 | 1,ho=>cases ho;exact ⟨trivial,a0h fun _=>a0k,a0h fun _=>a0k,trivial,trivial⟩
theorem b8L{E:Env}{N n0:Nat}{Q Q2:Exit->St->Prop}{s:St}{c c2:Code}{ι:Type}(σ:ι->St)(I:ι->Prop)(h1:AWp E N n0 c (fun e s'=>e=.normal/\∃i,I i/\Imp E N n0 s' (σ i)) s)(h2:∀i,I i->AWp E N n0 c2 Q2 (σ i)):AWp E N n0 c (a5W (AWp E N n0 c2 Q2) Q) s :=
 a2L h1 fun e s' ⟨he,i,hi,im⟩=>by subst he;exact a0t im (h2 i hi)
theorem b7E(X:Nat->Prop)(v:Int)(hv:v=1\/v=2)(seq off:Nat)(b:List UInt8)(hs:seq<9223372036854775808)(ho:off<=2147483647)(hb:b.length<=1000000) :
  a0b (E0 X) 25 [.int .i64 v,.int .i64 (seq:Int),.int .i64 (off:Int),.sl 1 (b.map u8A)] [] (fun r H'=>r=c2D (a5v v seq off b)/\H'=[]):=by
 refine a0b.cut0 ?_ (b3C _)
 have hbm:(b.map u8A).length=b.length:=List.length_map _
 refine Z0 Proofs.Tryz.func25 rfl Proofs.Tryz.ntmps25 (by kernel_rfl) rfl ?_
 repeat' (first|refine Zb rfl rfl ?_|refine Zs rfl ?_|refine Zc rfl ?_)
 refine a0I rfl (fun h1=>?_) (fun h1=>?_)
 ·have e:a5v v seq off b=none:=if_pos (by grind)
  rw [e]
  repeat' (first|refine Zs rfl ?_|refine Zc rfl ?_|refine Zh ?_|refine Qs ?_)
  exact a0c ⟨_,rfl,rfl⟩
 have h1:¬ b.length<16:=by grind
 obtain ⟨x1,hx1⟩:∃x,b[1]?=some x:=⟨_,List.getElem?_eq_getElem (by omega)⟩
 obtain ⟨x2,hx2⟩:∃x,b[2]?=some x:=⟨_,List.getElem?_eq_getElem (by omega)⟩
 have g1:=b6I hx1
 have g2:=b6I hx2
 have l1:=x1.toNat_lt
 have l2:=x2.toNat_lt
 have wx1:IntKind.i64.wrap (x1.toNat:Int)=(x1.toNat:Int):=a0r (by omega) (by omega)
 have wx2:IntKind.i64.wrap (x2.toNat:Int)=(x2.toNat:Int):=a0r (by omega) (by omega)
 have q8:=fun X=>a3e X ((b.drop 8).take 4) (by simp;omega)
 have q4:=fun X=>a3e X ((b.drop 4).take 4) (by simp;omega)
 have q7:=fun X=>a3e X ((b.drop 7).take 5) (by simp;omega)
 have q3:=fun X=>a3e X ((b.drop 3).take 3) (by simp;omega)
 have s8:=a0U (bs:=b) (lo:=8) (w:=4) (by decide)
 have s4:=a0U (bs:=b) (lo:=4) (w:=4) (by decide)
 have s7:=a0U (bs:=b) (lo:=7) (w:=5) (by decide)
 have s3:=a0U (bs:=b) (lo:=3) (w:=3) (by decide)
 have hdec:a5v v seq off b=if v=1 then b1c v seq off b x1.toNat x2.toNat (a0J ((b.drop 4).take 4)) (a0J ((b.drop 8).take 4)) else b1c v seq off b (x2.toNat / 16) x1.toNat (a0J ((b.drop 3).take 3)) (a0J ((b.drop 7).take 5)):=by
  unfold a5v;rw [if_neg h1,g1,g2]
 rw [hdec]
 clear hdec
 repeat' (refine Zc rfl ?_)
 refine a0n [9,10] [0,1,2,3,4,5,6,7,8] (by exact rfl) ?_
 refine a0y (fuel:=0) [0,1,2,3,4,5,6,7,8,9,10] (by exact rfl) (by kernel_rfl) (by kernel_rfl) ?_
 repeat' ((apply Qe rfl rfl rfl rfl;intro H9);(refine Q0 ?_);(exact QY rfl ⟨rfl,rfl⟩))
 apply a0O rfl rfl rfl rfl
 ·intro H9
  refine a0C hx1 rfl rfl rfl rfl rfl rfl rfl (by first|rfl|omega) rfl ?_
  exact nxs rfl ⟨rfl,rfl⟩
 repeat' ((apply Qe rfl rfl rfl rfl;intro H9);(first|refine Q0 ?_|refine Q3 rfl rfl rfl ?_|refine QG rfl rfl rfl rfl ?_);(exact QY rfl ⟨rfl,rfl⟩))
 apply a0O rfl rfl rfl rfl
 ·intro H9
  refine a1f (l:=8) (h:=12) (ys:=(b.drop 8).take 4) (a0q rfl rfl) (a0q rfl rfl) (by omega) (by omega) (by rw [List.drop_take]) rfl rfl rfl rfl rfl ?_
  exact nx0 ⟨rfl,rfl⟩
 generalize (b.drop 8).take 4=b8 at *
 skip
 apply a0O rfl rfl rfl rfl
 ·intro H9
  refine Ck (fun _=>rfl) rfl (a0f (E:=E0 X) (fun X=>q8 X) (by simp [a0e,a0d]) _) ?_
  exact nxs rfl ⟨rfl,rfl⟩
 repeat' (first|((first|refine Qc rfl rfl rfl ?_|(apply Qe rfl rfl rfl rfl;intro H9));(first|refine QG rfl rfl rfl rfl ?_|refine QJ rfl rfl ?_|refine QP rfl rfl rfl rfl rfl rfl ?_);(first|exact QY rfl ⟨rfl,rfl⟩|refine QX rfl rfl ?_))|(refine Qf rfl rfl rfl ?_;refine QS rfl rfl rfl rfl rfl rfl rfl ?_;(refine QX rfl rfl ?_))|refine Qk ?_|refine Qw (by kernel_rfl) ?_)
 rw [wx1,a3i s8]
 repeat' (refine Zc rfl ?_)
 refine a0p [] [] (by exact rfl) (by kernel_rfl) ?_
 repeat' (refine Zd rfl ?_)
 apply ds rfl rfl rfl rfl
 ·refine a0C hx2 rfl rfl rfl rfl rfl rfl rfl (by first|rfl|omega) rfl ?_
  exact nx rfl rfl ⟨rfl,rfl⟩
 repeat' (refine Zd rfl ?_)
 apply ds rfl rfl rfl rfl
 ·refine a1f (l:=4) (h:=8) (ys:=(b.drop 4).take 4) (a0q rfl rfl) (a0q rfl rfl) (by omega) (by omega) (by rw [List.drop_take]) rfl rfl rfl rfl rfl ?_
  exact nx rfl rfl ⟨rfl,rfl⟩
 generalize (b.drop 4).take 4=b4 at *
 skip
 apply ds rfl rfl rfl rfl
 ·refine Ck (fun _=>rfl) rfl (a0f (E:=E0 X) (fun X=>q4 X) (by simp [a0e,a0d]) _) ?_
  exact nx rfl rfl ⟨rfl,rfl⟩
 repeat' (first|refine Zs rfl ?_|refine Zd rfl ?_|refine Zc rfl ?_|refine Zh ?_|refine Qs ?_)
 rw [wx2,a3i s4]
 skip
 refine b8L (fun p:Nat × Nat × Nat × Nat=>⟨[(0,.int .i64 v),(1,.int .i64 (seq:Int)),(2,.int .i64 (off:Int)),(3,.sl 1 (b.map u8A)),(8,.ptr 0 0),(11,.ptr 1 0),(12,.int .i64 (p.2.1:Int)),(13,.int .i64 (p.2.2.1:Int))],[some zR,some (.cells [.int .i64 (p.1:Int),.nils,.nils,.int .i64 (p.2.2.2:Int)] 72)]⟩) (fun p=>p.2.1<=255/\p.2.2.1<=281474976710655/\(if v=1 then b1c v seq off b x1.toNat x2.toNat (a0J b4) (a0J b8) else b1c v seq off b (x2.toNat / 16) x1.toNat (a0J ((b.drop 3).take 3)) (a0J ((b.drop 7).take 5)))=b1c v seq off b p.1 p.2.1 p.2.2.1 p.2.2.2) ?_ ?_
 ·refine a0g rfl (fun h5=>?_) (fun h5=>?_)
  ·have h6:¬ v=1:=by omega
   rw [if_neg h6]
   repeat' (refine Zc rfl ?_)
   refine a0n [10] [0,1,2,3,4,5,6,7,8,9] (by exact rfl) ?_
   refine a0y (fuel:=0) [0,1,2,3,4,5,6,7,8,9,10] (by exact rfl) (by kernel_rfl) (by kernel_rfl) ?_
   repeat' ((apply Qe rfl rfl rfl rfl;intro H9);(refine Q0 ?_);(exact QY rfl ⟨rfl,rfl⟩))
   apply a0O rfl rfl rfl rfl
   ·intro H9
    refine a0C hx2 rfl rfl rfl rfl rfl rfl rfl (by first|rfl|omega) rfl ?_
    exact nxs rfl ⟨rfl,rfl⟩
   repeat' ((apply Qe rfl rfl rfl rfl;intro H9);(first|refine Q0 ?_|refine Q3 rfl rfl rfl ?_|refine QA rfl rfl (by decide) ?_|refine QG rfl rfl rfl rfl ?_);(exact QY rfl ⟨rfl,rfl⟩))
   apply a0O rfl rfl rfl rfl
   ·intro H9
    refine a1f (l:=7) (h:=12) (ys:=(b.drop 7).take 5) (a0q rfl rfl) (a0q rfl rfl) (by omega) (by omega) (by rw [List.drop_take]) rfl rfl rfl rfl rfl ?_
    exact nx0 ⟨rfl,rfl⟩
   generalize (b.drop 7).take 5=b7 at *
   skip
   apply a0O rfl rfl rfl rfl
   ·intro H9
    refine Ck (fun _=>rfl) rfl (a0f (E:=E0 X) (fun X=>q7 X) (by simp [a0e,a0d]) _) ?_
    exact nxs rfl ⟨rfl,rfl⟩
   repeat' (first|((apply Qe rfl rfl rfl rfl;intro H9);(first|refine QG rfl rfl rfl rfl ?_|refine QP rfl rfl rfl rfl rfl rfl ?_);(exact QY rfl ⟨rfl,rfl⟩))|(refine Qf rfl rfl rfl ?_;refine QS rfl rfl rfl rfl rfl rfl rfl ?_;(refine QX rfl rfl ?_))|refine Qk ?_|refine Qw (by kernel_rfl) ?_)
   rw [wx2,a3i s7]
   have wq:IntKind.i64.wrap (Int.tdiv (x2.toNat:Int) 16)=((x2.toNat / 16:Nat):Int):=by
    rw [show Int.tdiv (x2.toNat:Int) 16=((x2.toNat / 16:Nat):Int) from rfl]
    exact a0r (by omega) (by omega)
   rw [wq]
   repeat' (refine Qs ?_)
   refine a0p [] [] (by exact rfl) (by kernel_rfl) ?_
   repeat' (refine Zd rfl ?_)
   apply ds rfl rfl rfl rfl
   ·refine a0C hx1 rfl rfl rfl rfl rfl rfl rfl (by first|rfl|omega) rfl ?_
    exact nx rfl rfl ⟨rfl,rfl⟩
   repeat' (refine Zd rfl ?_)
   apply ds rfl rfl rfl rfl
   ·refine a1f (l:=3) (h:=6) (ys:=(b.drop 3).take 3) (a0q rfl rfl) (a0q rfl rfl) (by omega) (by omega) (by rw [List.drop_take]) rfl rfl rfl rfl rfl ?_
    exact nx rfl rfl ⟨rfl,rfl⟩
   generalize (b.drop 3).take 3=b3 at *
   skip
   apply ds rfl rfl rfl rfl
   ·refine Ck (fun _=>rfl) rfl (a0f (E:=E0 X) (fun X=>q3 X) (by simp [a0e,a0d]) _) ?_
    exact nx rfl rfl ⟨rfl,rfl⟩
   repeat' (first|refine Zd rfl ?_|refine Zk ?_)
   rw [wx1,a3i s3]
   exact ⟨rfl,(x2.toNat / 16,x1.toNat,a0J b3,a0J b7),⟨by show x1.toNat<=_;omega,Nat.le_trans s3 (by decide),rfl⟩,ik 2 (c0K _ _) rfl rfl rfl rfl (by simp [a0e,a0d])⟩
  have h6:v=1:=by omega
  rw [if_pos h6]
  repeat' (refine Zc rfl ?_)
  exact ⟨rfl,(x1.toNat,x2.toNat,a0J b4,a0J b8),⟨by show x2.toNat<=_;omega,s4,rfl⟩,ik 2 (c0K _ _) rfl rfl rfl rfl (by simp [a0e,a0d])⟩
 rintro ⟨kd,kl,vl,ex⟩ ⟨hkl,hvl,he⟩
 simp only at hkl hvl he ⊢
 rw [he]
 clear he q8 q4 q7 q3 s8 s4 s7 s3
 have w1:IntKind.i64.wrap (16+(kl:Int))=((16+kl:Nat):Int):=a0x (by omega) (by omega) (by omega)
 have w2:IntKind.i64.wrap (((16+kl:Nat):Int)+(vl:Int))=((16+kl+vl:Nat):Int):=a0x (by omega) (by omega) (by omega)
 repeat' (first|refine Zs rfl ?_|refine Zc rfl ?_)
 by_cases h3:65536<vl
 ·rw [decide_eq_true (show (65536:Int)<(vl:Int) by omega)]
  have e:b1c v seq off b kd kl vl ex=none:=if_pos (.inl h3)
  rw [e]
  repeat' (first|refine Zs rfl ?_|refine Zc rfl ?_|refine Zh ?_|refine Qs ?_)
  exact a0c ⟨_,rfl,rfl⟩
 rw [decide_eq_false (show ¬ (65536:Int)<(vl:Int) by omega)]
 repeat' (first|refine Zs rfl ?_|refine Zh ?_|refine Qs ?_)
 rw [w1,w2]
 by_cases h4:b.length<16+kl+vl
 ·rw [decide_eq_true (show ((b.map u8A).length:Int)<((16+kl+vl:Nat):Int) by omega)]
  have e:b1c v seq off b kd kl vl ex=none:=if_pos (.inr h4)
  rw [e]
  repeat' (first|refine Zs rfl ?_|refine Zc rfl ?_|refine Zh ?_|refine Qs ?_)
  exact a0c ⟨_,rfl,rfl⟩
 rw [decide_eq_false (show ¬ ((b.map u8A).length:Int)<((16+kl+vl:Nat):Int) by omega)]
 have e:b1c v seq off b kd kl vl ex=if a4i v ⟨(kd:Int),(b.drop 16).take kl,(b.drop (16+kl)).take vl,(ex:Int)⟩=0/\a4a v seq off ⟨(kd:Int),(b.drop 16).take kl,(b.drop (16+kl)).take vl,(ex:Int)⟩=b.take (16+kl+vl)
  then some ⟨(kd:Int),(b.drop 16).take kl,(b.drop (16+kl)).take vl,(ex:Int)⟩ else none:=if_neg (by omega)
 rw [e]
 clear e
 have hk1:((b.drop 16).take kl).length=kl:=by simp;omega
 have hv1:((b.drop (16+kl)).take vl).length=vl:=by simp;omega
 repeat' (first|refine Zs rfl ?_|refine Zc rfl ?_|refine Qa rfl ?_)
 rw [w1]
 refine a1f (l:=16) (h:=16+kl) (ys:=(b.drop 16).take kl) (a0q rfl rfl) (a0q rfl rfl) (by omega) (by omega) (by rw [List.drop_take];congr 1;omega) rfl rfl rfl rfl rfl ?_
 refine nx rfl rfl ?_
 have hlen:a1M ⟨(kd:Int),(b.drop 16).take kl,(b.drop (16+kl)).take vl,(ex:Int)⟩=16+kl+vl:=by simp only [a1M,hk1,hv1]
 generalize (b.drop 16).take kl=key at *
 repeat' (refine Qa rfl ?_)
 refine a0V (oid:=none) (es:=[]) (out:=key.map u8A) (n:=key.length) (rfl) (rfl) (a0P _) (rfl) (by simp) (by show _<=9223372036854775807;omega) (by show _*1<=_;omega) rfl rfl rfl rfl rfl rfl rfl rfl ?_
 refine nx rfl rfl ?_
 repeat' (first|((refine Qa rfl ?_);(refine Q4 rfl rfl rfl rfl rfl ?_);(refine QX rfl rfl ?_))|(refine Qb rfl ?_;try (refine QS rfl rfl rfl rfl rfl rfl rfl ?_;(refine QX rfl rfl ?_)))|refine Qh ?_)
 refine a2j ?_
 repeat' (first|refine Zs rfl ?_|refine Zc rfl ?_|refine Qa rfl ?_)
 rw [w1,w2]
 refine a1f (l:=16+kl) (h:=16+kl+vl) (ys:=(b.drop (16+kl)).take vl) (a0q rfl rfl) (a0q rfl rfl) (by omega) (by omega) (by rw [List.drop_take];congr 1;omega) rfl rfl rfl rfl rfl ?_
 refine nx rfl rfl ?_
 generalize (b.drop (16+kl)).take vl=val at *
 repeat' (refine Qa rfl ?_)
 refine a0V (oid:=none) (es:=[]) (out:=val.map u8A) (n:=val.length) (rfl) (rfl) (a0P _) (rfl) (by simp) (by show _<=9223372036854775807;omega) (by show _*1<=_;omega) rfl rfl rfl rfl rfl rfl rfl rfl ?_
 refine nx rfl rfl ?_
 repeat' (first|((refine Qa rfl ?_);(refine Q4 rfl rfl rfl rfl rfl ?_);(refine QX rfl rfl ?_))|(refine Qb rfl ?_;try (refine QS rfl rfl rfl rfl rfl rfl rfl ?_;(refine QX rfl rfl ?_)))|refine Qh ?_)
 refine a2j ?_
 refine a0t (Imp.trans (a3O (id:=3) (k:=1) (es:=val.map u8A) (e:=5) rfl rfl rfl) (Imp.trans (a3O (id:=2) (k:=1) (es:=key.map u8A) (e:=5) rfl rfl rfl) (a0j 2 (Nat.zero_le _) (c4e kd ex key val) ?_ (by simp) (sl':=[(0,.int .i64 v),(1,.int .i64 (seq:Int)),(2,.int .i64 (off:Int)),(3,.sl 1 (b.map u8A)),(8,.ptr 0 0),(11,.ptr 1 0)]) ?_))) ?_
 ·simp [c5I,frz,zR,List.take_of_length_le]
 ·repeat' (first|exact a0l|refine a0a ⟨?_,?_⟩ ?_)
  all_goals (try first|exact rfl|exact trivial|(simp [a0d,a0e];done))
 have hck:=fun X=>a7f X v ⟨(kd:Int),key,val,(ex:Int)⟩
 have hle:=fun X=>a7W X ⟨(kd:Int),key,val,(ex:Int)⟩ (by show key.length<=_;omega) (by show val.length<=_;omega)
 rw [hlen] at hle
 by_cases hc:a4i v ⟨(kd:Int),key,val,(ex:Int)⟩=0
 ·have hen:=fun X=>b7F X v seq off ⟨(kd:Int),key,val,(ex:Int)⟩ hc hs ho
  have hel:=a4E v seq off ⟨(kd:Int),key,val,(ex:Int)⟩
  rw [hc] at hck
  generalize a4a v seq off ⟨(kd:Int),key,val,(ex:Int)⟩=eb at *
  repeat' (first|refine Zs rfl ?_|refine Zc rfl ?_|refine Qa rfl ?_)
  refine Cn rfl (a0f (E:=E0 X) (fun X=>hle X) (by simp [a0e,a0d]) _) rfl rfl ?_
  repeat' (first|refine Zs rfl ?_|refine Zc rfl ?_)
  refine a0p [] [] (by exact rfl) (by kernel_rfl) ?_
  repeat' (refine Zd rfl ?_)
  apply ds rfl rfl rfl rfl
  ·refine Ck (fun _=>rfl) rfl (a0f (E:=E0 X) (fun X=>hck X) (by simp [a0e,a0d]) _) ?_
   exact nx rfl rfl ⟨rfl,rfl⟩
  repeat' (refine Zd rfl ?_)
  apply ds rfl rfl rfl rfl
  ·refine Ck (fun _=>rfl) rfl (a0f (E:=E0 X) (fun X=>hen X) (by simp [a0e,a0d]) _) ?_
   exact nx rfl rfl ⟨rfl,rfl⟩
  repeat' (refine Zd rfl ?_)
  apply ds rfl rfl rfl rfl
  ·refine a1f (l:=0) (h:=16+kl+vl) (ys:=b.take (16+kl+vl)) (a1u) (a0q rfl rfl) (by omega) (by omega) (rfl) rfl rfl rfl rfl rfl ?_
   exact nx rfl rfl ⟨rfl,rfl⟩
  generalize b.take (16+kl+vl)=bt at *
  skip
  apply ds rfl rfl rfl rfl
  ·refine Ck (fun _=>rfl) rfl (a0f (E:=E0 X) (fun X=>b4q X eb bt (by omega)) (by simp [a0e,a0d]) _) ?_
   exact nx rfl rfl ⟨rfl,rfl⟩
  repeat' (first|refine Zd rfl ?_|refine Zk ?_|refine Qs ?_)
  refine a0I rfl (fun h9=>?_) (fun h9=>?_)
  ·have h8:¬ eb=bt:=by simpa using h9
   rw [if_neg (fun h=>h8 h.2)]
   repeat' (first|refine Zs rfl ?_|refine Zc rfl ?_|refine Zh ?_|refine Qs ?_)
   exact a0c ⟨_,rfl,rfl⟩
  have h8:eb=bt:=by simpa using h9
  rw [if_pos ⟨hc,h8⟩]
  repeat' (first|refine Zs rfl ?_|refine Zc rfl ?_|refine Zh ?_|refine Qs ?_)
  refine a0c ⟨_,rfl,?_⟩
  show _=AV.tup [a5X _,.int .i64 (a1M _:Int),.bool true]
  rw [hlen]
  rfl
 rw [if_neg (fun h=>hc h.1)]
 generalize a4i v ⟨(kd:Int),key,val,(ex:Int)⟩=e at *
 repeat' (first|refine Zs rfl ?_|refine Zc rfl ?_|refine Qa rfl ?_)
 refine Cn rfl (a0f (E:=E0 X) (fun X=>hle X) (by simp [a0e,a0d]) _) rfl rfl ?_
 repeat' (first|refine Zs rfl ?_|refine Zc rfl ?_)
 refine a0p [] [] (by exact rfl) (by kernel_rfl) ?_
 repeat' (refine Zd rfl ?_)
 apply ds rfl rfl rfl rfl
 ·refine Ck (fun _=>rfl) rfl (a0f (E:=E0 X) (fun X=>hck X) (by simp [a0e,a0d]) _) ?_
  exact nx rfl rfl ⟨rfl,rfl⟩
 repeat' (refine Zd rfl ?_)
 rw [decide_eq_true hc]
 repeat' (first|refine Zs rfl ?_|refine Zd rfl ?_|refine Zc rfl ?_|refine Zh ?_|refine Qs ?_)
 exact a0c ⟨_,rfl,rfl⟩
theorem b3U(v:Dv)(seq:Nat):∀n s,(a9R v seq n s).length<=59*n
 | 0,_=>by simp [a9R]
 | n+1,s=>by
  unfold a9R
  split
  ·simp
  split
  ·simp
  rename_i p hp
  have:=(a2e hp).1
  have:=b3U v seq n (s+1)
  rw [List.length_append]
  omega
theorem b3t(l:List (Nat × Rec)):a2R (l.map foA):=fun y hy=>by
 obtain ⟨b,_,rfl⟩:=List.mem_map.1 hy;exact ⟨rfl,rfl⟩
theorem b9z{off:Nat}(h:off<=2000000):IntKind.i64.wrap ((off:Int)+IntKind.i64.wrap (59 - Int.tmod (off:Int) 59))=(((off / 59+1)*59:Nat):Int):=by
 have hr:Int.tmod (off:Int) 59=((off%59:Nat):Int):=rfl
 have hs:IntKind.i64.wrap (59 - ((off%59:Nat):Int))=((59 - off%59:Nat):Int):=a0x (by omega) (by omega) (by omega)
 rw [hr,hs]
 exact a0x (by omega) (by omega) (by omega)
theorem a5K{ver:Int}{seq:Nat}{b:List UInt8}(n:Nat){off:Nat}(h:off<b.length):a4b ver seq b (n+1) off=if b[off]?=some 0 then a4b ver seq b n ((off / 59+1)*59) else match a5v ver seq off (b.drop off) with
  | none=>[]
  | some r=>(off,r)::a4b ver seq b n (off+a1M r):=by
 have h':¬ b.length<=off:=by omega
 conv=>lhs;unfold a4b
 rw [if_neg h']
 all_goals (split<;>first|rfl|(cases a5v ver seq off (b.drop off)<;>rfl))
theorem a5J{ver:Int}{seq:Nat}{b:List UInt8}(n:Nat){off:Nat}(h:b.length<=off):a4b ver seq b n off=[]:=by
 cases n with
 | zero=>rfl
 | succ n=>exact if_pos h
theorem c0I(v:Dv)(l:List (Nat × Rec)):HOk 4 (a0K v++[some (.arr (l.map foA) 118)]):=fun j o ho=>by
 match j,ho with
 | 0,ho=>cases ho;exact ⟨by simp [a0d],by simp [a0d],trivial,trivial,trivial,trivial⟩
 | 1,ho=>cases ho;exact a0h fun _=>a0k
 | 2,ho=>cases ho;exact ⟨by rw [List.map_map];exact a0h fun _=>trivial,by rw [List.map_map];exact a0h fun p=>(a0h (f:=u8A) fun _=>a0k:a0e _ (p.2.map u8A))⟩
 | 3,ho=>cases ho;exact a0h fun _=>a2f
theorem b7W(X:Nat->Prop)(v:Dv)(hv:v.Inv)(l:La)(slot:Int)(seq:Nat)(h:a2i l slot)(hs1:1<=seq)(hs2:seq<=281474976710655) :
  a0b (E0 X) 47 [.ptr 0 0,laA l,.int .i64 slot,.int .i64 (seq:Int)] (a0K v) (fun r H'=>r=.sl 6 ((recs l.ver seq (a9R v seq (l.rs.toNat - 1) ((74+slot*l.rs).toNat+1))).map foA)/\H'=a0K v):=by
 refine a0b.frzD (e:=118) 6 ?_ rfl rfl (a0h fun _=>a2f)
 have hcap:=fun X=>b4j X l
 have hst:=c0h X v hv l slot seq h hs1 hs2
 have hsl:=b3U v seq (l.rs.toNat - 1) ((74+slot*l.rs).toNat+1)
 have hrs:=a1z h.1
 have hbl:(a9R v seq (l.rs.toNat - 1) ((74+slot*l.rs).toNat+1)).length<=130000:=by omega
 generalize a9R v seq (l.rs.toNat - 1) ((74+slot*l.rs).toNat+1)=b at *
 clear hsl
 have hbm:(b.map u8A).length=b.length:=List.length_map _
 generalize htot:recs l.ver seq b=tot
 show a0b (E0 X) 47 [.ptr 0 0,.agg [.int .i64 l.id,.int .i64 l.ver,.int .i64 l.rs,.int .i64 l.regs],.int .i64 slot,.int .i64 (seq:Int)] (a0K v) _
 refine Z0 Proofs.Tryz.func47 rfl Proofs.Tryz.ntmps47 (by kernel_rfl) rfl ?_
 repeat' (first|refine Zs rfl ?_|refine Zc rfl ?_)
 refine Kz 3 [0,2,3,5,8] 3 (a1n v) rfl rfl (by simp [a0d,a0e]) ?_
 refine a0p [] [] (by exact rfl) (by kernel_rfl) ?_
 repeat' (refine Zd rfl ?_)
 apply ds rfl rfl rfl rfl
 ·refine Ck (fun _=>rfl) rfl (a0f (E:=E0 X) hcap (by simp [a0e,a0d]) _) ?_
  exact nx rfl rfl ⟨rfl,rfl⟩
 skip
 apply ds rfl rfl rfl rfl
 ·refine Ck (fun _=>rfl) rfl (hst) ?_
  exact nx rfl rfl ⟨rfl,rfl⟩
 repeat' (first|refine Zs rfl ?_|refine Zd rfl ?_|refine Zc rfl ?_)
 refine a0s (fun p:Nat × Nat × List (Nat × Rec)=>⟨[(0,.ptr 0 0),(3,.int .i64 (seq:Int)),(5,.fp [.int .i64 l.id,.int .i64 l.ver,.int .i64 l.rs,.int .i64 l.regs]),(9,.sl 1 (b.map u8A)),(11,.own 3 0 p.2.2.length),(12,.int .i64 (p.2.1:Int))],a0K v++[some (.arr (p.2.2.map foA) 118)]⟩)
  (fun p=>p.2.1<=b.length+59/\p.2.2.length<=p.2.1/\b.length<=p.1+p.2.1/\p.2.2++a4b l.ver seq b p.1 p.2.1=tot) (fun p=>p.1) (b.length,0,[]) ⟨Nat.zero_le _,Nat.le_refl _,by show b.length<=b.length+0;omega,htot⟩ ?_ ?_
 ·exact Imp.trans (imp_nil 11 118 rfl) (kk 4 (c0I v []) rfl (by simp [a0d,a0e]))
 rintro ⟨n,off,out⟩ ⟨ho0,hl0,hf0,ht0⟩
 have ho:off<=b.length+59:=ho0
 have hol:out.length<=off:=hl0
 have hfu:b.length<=n+off:=hf0
 have ht:out++a4b l.ver seq b n off=tot:=ht0
 clear ho0 hl0 hf0 ht0
 show AWp _ _ _ _ _ ⟨[(0,.ptr 0 0),(3,.int .i64 (seq:Int)),(5,.fp [.int .i64 l.id,.int .i64 l.ver,.int .i64 l.rs,.int .i64 l.regs]),(9,.sl 1 (b.map u8A)),(11,.own 3 0 out.length),(12,.int .i64 (off:Int))],a0K v++[some (.arr (out.map foA) 118)]⟩
 have hpw:=b9z (off:=off) (by omega)
 repeat' (first|refine Zs rfl ?_|refine Zc rfl ?_|refine Zh ?_|refine Qs ?_)
 by_cases hlt:off<b.length
 ·rw [decide_eq_true (show (off:Int)<((b.map u8A).length:Int) by omega)]
  obtain ⟨n,rfl⟩:∃k,n=k+1:=⟨n - 1,by omega⟩
  rw [a5K n hlt] at ht
  obtain ⟨x,hx⟩:∃x,b[off]?=some x:=⟨_,List.getElem?_eq_getElem hlt⟩
  rw [hx] at ht
  repeat' (first|refine Zs rfl ?_|refine Zc rfl ?_|refine Qa rfl ?_)
  refine a0C hx rfl rfl rfl rfl rfl rfl rfl (by first|rfl|omega) rfl ?_
  refine nx rfl rfl ?_
  repeat' (first|refine Zs rfl ?_|refine Zh ?_|refine Qs ?_)
  by_cases hx0:x=0
  ·rw [if_pos (by rw [hx0])] at ht
   rw [decide_eq_true (show (x.toNat:Int)=0 by rw [hx0];rfl)]
   repeat' (first|refine Zs rfl ?_|refine Zc rfl ?_|refine Qs ?_|refine Qt ?_|refine Qv ?_)
   rw [hpw]
   refine ⟨(n,(off / 59+1)*59,out),⟨by show (off / 59+1)*59<=b.length+59;omega,by show out.length<=(off / 59+1)*59;omega,by show b.length<=n+(off / 59+1)*59;omega,ht⟩,Nat.lt_succ_self n,?_⟩
   exact kk 4 (c0I v out) rfl (by simp [a0d,a0e])
  rw [if_neg (fun e=>hx0 (Option.some.inj e))] at ht
  rw [decide_eq_false (show ¬ (x.toNat:Int)=0 from fun e=>hx0 (UInt8.toNat_inj.1 (by simpa using e)))]
  have hde:=fun X=>c0W X l.ver seq off (b.drop off) (by omega) (by omega) (by rw [List.length_drop];omega)
  have hlr:∀r,a5v l.ver seq off (b.drop off)=some r->off+a1M r<=b.length:=fun r hr=>by
   have:=(a6Z hr).1
   rw [List.length_drop] at this
   omega
  repeat' (refine Zc rfl ?_)
  cases hd:a5v l.ver seq off (b.drop off) with
  | none =>
   rw [hd] at ht hde
   have ho2:out=tot:=by rw [<- ht,List.append_nil]
   have hde2:∀X,a0b (E0 X) 99 [.int .i64 l.ver,.int .i64 (seq:Int),.int .i64 (off:Int),.sl 1 ((b.drop off).map u8A)] [] (fun r H'=>r=.tup [.agg [.int .i64 0,.nils,.nils,.int .i64 0],.int .i64 0,.bool false]/\H'=[]):=hde
   refine a0n [12,13] [0,1,2,3,4,5,6,7,8,9,10,11,14,15] (by exact rfl) ?_
   refine a0y (fuel:=0) [0,1,2,3,4,5,6,7,8,9,10,11,12,13,14,15] (by exact rfl) (by kernel_rfl) (by kernel_rfl) ?_
   repeat' ((apply Qe rfl rfl rfl rfl;intro H9);(first|refine Q0 ?_|refine Q3 rfl rfl rfl ?_|refine Q4 rfl rfl rfl rfl rfl ?_);(exact QY rfl ⟨rfl,rfl⟩))
   apply a0O rfl rfl rfl rfl
   ·intro H9
    refine a1f (l:=off) (h:=(b.map u8A).length) (ys:=b.drop off) (a0q rfl rfl) (a1u) (by omega) (by omega) (by rw [hbm,List.take_length]) rfl rfl rfl rfl rfl ?_
    exact nx0 ⟨rfl,rfl⟩
   generalize b.drop off=bo at *
   skip
   apply a0O rfl rfl rfl rfl
   ·intro H9
    refine Ck (fun _=>rfl) rfl (a0f (E:=E0 X) (fun X=>hde2 X) (by simp [a0e,a0d]) _) ?_
    exact nxs rfl ⟨rfl,rfl⟩
   repeat' (first|((first|refine Qc rfl rfl rfl ?_|(apply Qe rfl rfl rfl rfl;intro H9));(first|refine Q0 ?_|refine Q1 ?_|refine QC rfl rfl ?_|refine QJ rfl rfl ?_);(first|exact QY rfl ⟨rfl,rfl⟩|refine QX rfl rfl ?_))|(refine Qf rfl rfl rfl ?_;refine QS rfl rfl rfl rfl rfl rfl rfl ?_;(refine QX rfl rfl ?_))|refine Qk ?_|refine Qw (by kernel_rfl) ?_)
   repeat' (first|refine Zs rfl ?_|refine Zc rfl ?_|refine Zh ?_|refine Qs ?_)
   refine a0c ⟨_,rfl,3,_,rfl,?_,Nat.le_refl _,?_,rfl⟩
   ·rw [<- ho2,List.length_map]
   ·rw [<- ho2];rfl
  | some r =>
   rw [hd] at ht hde
   have hl2:=hlr r hd
   have hl3:16<=a1M r:=by simp only [a1M];omega
   have hde2:∀X,a0b (E0 X) 99 [.int .i64 l.ver,.int .i64 (seq:Int),.int .i64 (off:Int),.sl 1 ((b.drop off).map u8A)] [] (fun q H'=>q=.tup [.agg [.int .i64 r.kind,.sl 1 (r.key.map u8A),.sl 1 (r.val.map u8A),.int .i64 r.exp],.int .i64 (a1M r:Int),.bool true]/\H'=[]):=hde
   have hwo:IntKind.i64.wrap ((off:Int)+(a1M r:Int))=((off+a1M r:Nat):Int):=a0x (by omega) (by omega) (by omega)
   have htt:(out++[(off,r)])++a4b l.ver seq b n (off+a1M r)=tot:=by rw [<- ht,List.append_assoc];rfl
   have hol2:(out++[(off,r)]).length<=off+a1M r:=by rw [List.length_append];show out.length+1<=_;omega
   have hfu2:b.length<=n+(off+a1M r):=by omega
   have hoff2:off+a1M r<=b.length+59:=by omega
   generalize hL:a1M r=L at *
   refine a0n [12,13] [0,1,2,3,4,5,6,7,8,9,10,11,14,15] (by exact rfl) ?_
   refine a0y (fuel:=0) [0,1,2,3,4,5,6,7,8,9,10,11,12,13,14,15] (by exact rfl) (by kernel_rfl) (by kernel_rfl) ?_
   repeat' ((apply Qe rfl rfl rfl rfl;intro H9);(first|refine Q0 ?_|refine Q3 rfl rfl rfl ?_|refine Q4 rfl rfl rfl rfl rfl ?_);(exact QY rfl ⟨rfl,rfl⟩))
   apply a0O rfl rfl rfl rfl
   ·intro H9
    refine a1f (l:=off) (h:=(b.map u8A).length) (ys:=b.drop off) (a0q rfl rfl) (a1u) (by omega) (by omega) (by rw [hbm,List.take_length]) rfl rfl rfl rfl rfl ?_
    exact nx0 ⟨rfl,rfl⟩
   generalize b.drop off=bo at *
   skip
   apply a0O rfl rfl rfl rfl
   ·intro H9
    refine Ck (fun _=>rfl) rfl (a0f (E:=E0 X) (fun X=>hde2 X) (by simp [a0e,a0d]) _) ?_
    exact nxs rfl ⟨rfl,rfl⟩
   repeat' (first|((first|refine Qc rfl rfl rfl ?_|(apply Qe rfl rfl rfl rfl;intro H9));(first|refine Q0 ?_|refine Q1 ?_|refine QC rfl rfl ?_|refine QJ rfl rfl ?_);(first|exact QY rfl ⟨rfl,rfl⟩|refine QX rfl rfl ?_))|(refine Qf rfl rfl rfl ?_;refine QS rfl rfl rfl rfl rfl rfl rfl ?_;(refine QX rfl rfl ?_))|refine Qk ?_|refine Qw (by kernel_rfl) ?_)
   repeat' (first|refine Zs rfl ?_|refine Zc rfl ?_|refine Qa rfl ?_)
   refine a0V (oid:=some 3) (es:=out.map foA) (out:=(out++[(off,r)]).map foA) (n:=out.length+1) (a0M rfl (List.length_map _).symm) (rfl) ((by have h9:=b3t [(off,r)];simp only [List.map,foA,c3v,hL] at h9;exact h9)) (by rw [List.map_append,<- hL];rfl) (by rw [List.length_map];rfl) (by show _<=9223372036854775807;omega) (by show _*80<=_;omega) rfl rfl rfl rfl rfl rfl rfl rfl ?_
   refine nx rfl rfl ?_
   repeat' (first|refine Zs rfl ?_|refine Zc rfl ?_|refine Zh ?_|refine Qs ?_|refine Qu ?_)
   rw [hwo]
   refine ⟨(n,off+L,out++[(off,r)]),⟨hoff2,hol2,hfu2,htt⟩,Nat.lt_succ_self n,?_⟩
   refine a0S 3 [5] (H':=a0K v++[some (.arr ((out++[(off,r)]).map foA) 118)]) (os:=[.arr ((out++[(off,r)]).map foA) 118]) (Nat.le_refl _) ?_ ?_ ?_ ?_ rfl ?_ ?_ ?_
   ·simp [a0K]
   ·simp
   ·simp
   ·exact a1n v
   ·rfl
   ·refine a0a (a0v rfl (by simp [a0d])) (a0a (a0v rfl trivial) (a0a (a0v rfl ⟨trivial,trivial,trivial,trivial,trivial⟩) (a0a (a0v rfl (a0h fun _=>a0k)) (a0a ?_ (a0a (a0v rfl trivial) a0l)))))
    rw [List.length_append];exact a0L rfl
   ·exact a0E rfl (a0A 3 a2m (a0h fun _=>a2f)) a0T
 rw [decide_eq_false (show ¬ (off:Int)<((b.map u8A).length:Int) by omega)]
 rw [a5J n (by omega),List.append_nil] at ht
 repeat' (first|refine Zs rfl ?_|refine Zc rfl ?_|refine Zh ?_|refine Qs ?_)
 refine a0c ⟨_,rfl,3,_,rfl,?_,Nat.le_refl _,?_,rfl⟩
 ·rw [<- ht,List.length_map]
 ·rw [<- ht];rfl
def a4L(img:List UInt8)(seq:Nat):Nat->Nat->List UInt8
 | 0,_=>[]
 | n+1,s=>match a2A 2 seq s (a4H img (s:Int)) with
  | none=>[]
  | some p=>p++a4L img seq n (s+1)
theorem a7n(img:List UInt8)(seq:Nat):∀n s,(a4L img seq n s).length<=59*n
 | 0,_=>Nat.zero_le _
 | n+1,s=>by
  have e:a4L img seq (n+1) s=match a2A 2 seq s (a4H img (s:Int)) with
    | none=>[]
    | some p=>p++a4L img seq n (s+1):=rfl
  have h:=a7n img seq n (s+1)
  rw [e]
  cases hd:a2A 2 seq s (a4H img (s:Int)) with
  | none=>exact Nat.zero_le _
  | some p =>
   have:=(a2e hd).1
   show (p++a4L img seq n (s+1)).length<=_
   rw [List.length_append]
   omega
theorem c4h(l:La)(o:List UInt8):HOk 2 [some (.cells [.int .i64 l.id,.int .i64 l.ver,.int .i64 l.rs,.int .i64 l.regs] 23),some (.arr (o.map u8A) 5)]:=fun j o' ho=>by
 match j,ho with
 | 0,ho=>cases ho;exact ⟨trivial,trivial,trivial,trivial,trivial⟩
 | 1,ho=>cases ho;exact a0h fun _=>a0k
theorem b0O(X:Nat->Prop)(img:List UInt8)(hi:img.length<=1073741824)(l:La)(slot:Int)(seq:Nat)(h:a2i l slot)(hs1:1<=seq)(hs2:seq<=281474976710655) :
  a0b (E0 X) 54 [.sl 1 (img.map u8A),laA l,.int .i64 slot,.int .i64 (seq:Int)] [] (fun r H'=>r=.sl 1 ((a4L img seq (l.rs.toNat - 1) ((74+slot*l.rs).toNat+1)).map u8A)/\H'=[]):=by
 refine a0b.frz0 (e:=5) 1 ?_ rfl rfl (a0h fun _=>a0k)
 have hsy:=fun X=>a5i X l slot h
 obtain ⟨hf,h0,h1⟩:=h
 have hm:=a2y hf h0 h1
 have hr:=a1z hf
 obtain ⟨F,hF⟩:=Int.eq_ofNat_of_zero_le (show 0<=74+slot*l.rs by omega)
 have hF2:F<=32842:=by omega
 have hxs:∀i:Nat,i<l.rs.toNat->(a4c l slot l.rs.toNat)[i]?=some ((F+i:Nat):Int):=fun i hi=>by
  rw [a5Q l slot hi];congr 1;omega
 have hxl:=a5R l slot l.rs.toNat
 rw [hF,Int.toNat_natCast]
 generalize a4c l slot l.rs.toNat=xs at *
 have hxm:(xs.map iA).length=l.rs.toNat:=by rw [List.length_map,hxl]
 generalize htot:a4L img seq (l.rs.toNat - 1) (F+1)=tot
 show a0b (E0 X) 54 [.sl 1 (img.map u8A),.agg [.int .i64 l.id,.int .i64 l.ver,.int .i64 l.rs,.int .i64 l.regs],.int .i64 slot,.int .i64 (seq:Int)] [] _
 refine Z0 Proofs.Tryz.func54 rfl Proofs.Tryz.ntmps54 (by kernel_rfl) rfl ?_
 repeat' (first|refine Zs rfl ?_|refine Zc rfl ?_|refine Qa rfl ?_)
 refine Cn rfl (a0f (E:=E0 X) (fun X=>hsy X) (by simp [a0e,a0d]) _) rfl rfl ?_
 repeat' (first|refine Zs rfl ?_|refine Zc rfl ?_)
 refine a0s (fun p:Nat × List UInt8=>⟨[(0,.sl 1 (img.map u8A)),(3,.int .i64 (seq:Int)),(9,.own 1 0 p.2.length),(10,.sl 1 (xs.map iA)),(11,.int .i64 (p.1:Int))],[some (.cells [.int .i64 l.id,.int .i64 l.ver,.int .i64 l.rs,.int .i64 l.regs] 23),some (.arr (p.2.map u8A) 5)]⟩)
  (fun p=>(1<=p.1/\p.1<=l.rs.toNat)/\p.2.length<=59*p.1/\p.2++a4L img seq (l.rs.toNat - p.1) (F+p.1)=tot) (fun p=>l.rs.toNat - p.1) (1,[]) ⟨⟨Nat.le_refl _,by show 1<=l.rs.toNat;omega⟩,Nat.zero_le _,htot⟩ ?_ ?_
 ·refine Imp.trans (imp_nil 9 5 rfl) (a0j 2 (Nat.zero_le _) (c4h l []) rfl (by simp) ?_)
  repeat' (first|exact a0l|refine a0a ⟨?_,?_⟩ ?_)
  all_goals (try first|exact rfl|exact trivial|(simp [a0d,a0e];done))
  exact a6l _
 rintro ⟨i,out⟩ ⟨⟨hi1,hi2⟩,hol0,ht0⟩
 have hi1:1<=i:=hi1
 have hi2:i<=l.rs.toNat:=hi2
 have hol:out.length<=59*i:=hol0
 have ht:out++a4L img seq (l.rs.toNat - i) (F+i)=tot:=ht0
 clear hol0 ht0
 show AWp _ _ _ _ _ ⟨[(0,.sl 1 (img.map u8A)),(3,.int .i64 (seq:Int)),(9,.own 1 0 out.length),(10,.sl 1 (xs.map iA)),(11,.int .i64 (i:Int))],[some (.cells [.int .i64 l.id,.int .i64 l.ver,.int .i64 l.rs,.int .i64 l.regs] 23),some (.arr (out.map u8A) 5)]⟩
 repeat' (first|refine Zs rfl ?_|refine Zc rfl ?_|refine Zh ?_|refine Qs ?_)
 by_cases hlt:i<l.rs.toNat
 ·rw [decide_eq_true (show (i:Int)<((xs.map iA).length:Int) by rw [hxm];omega)]
  have hst:a4L img seq (l.rs.toNat - i) (F+i)=match a2A 2 seq (F+i) (a4H img ((F+i:Nat):Int)) with
    | none=>[]
    | some p=>p++a4L img seq (l.rs.toNat - (i+1)) (F+(i+1)):=by
   have e:l.rs.toNat - i=(l.rs.toNat - (i+1))+1:=by omega
   rw [e];rfl
  have hx:=hxs i hlt
  have hSb:F+i<1048576:=by omega
  have hse:=fun X=>a8G X img ((F+i:Nat):Int) (by omega) hi
  have hbl:=b3P img ((F+i:Nat):Int)
  have hmeas:l.rs.toNat - (i+1)<l.rs.toNat - i:=Nat.sub_lt_sub_left hlt (Nat.lt_succ_self i)
  have hiw:IntKind.i64.wrap ((i:Int)+1)=((i+1:Nat):Int):=a0x (by omega) (by omega) (by omega)
  generalize a4H img ((F+i:Nat):Int)=bb at *
  have hde:=fun X=>a9A X 2 seq (F+i) bb ⟨by decide,by decide,hSb⟩ (by omega) (by omega)
  repeat' (refine Zc rfl ?_)
  refine a0p [] [] (by exact rfl) (by kernel_rfl) ?_
  repeat' (refine Zd rfl ?_)
  apply ds rfl rfl rfl rfl
  ·refine a0C hx rfl rfl rfl rfl rfl rfl rfl (by first|rfl|omega) rfl ?_
   exact nx rfl rfl ⟨rfl,rfl⟩
  repeat' (refine Zd rfl ?_)
  apply ds rfl rfl rfl rfl
  ·refine a0C hx rfl rfl rfl rfl rfl rfl rfl (by first|rfl|omega) rfl ?_
   exact nx rfl rfl ⟨rfl,rfl⟩
  repeat' (refine Zd rfl ?_)
  apply ds rfl rfl rfl rfl
  ·refine Ck (fun _=>rfl) rfl (a0f (E:=E0 X) hse (by simp [a0e,a0d]) _) ?_
   exact nx rfl rfl ⟨rfl,rfl⟩
  skip
  cases hd:a2A 2 seq (F+i) bb with
  | none =>
   rw [hd] at hst hde
   have ho:out=tot:=by rw [<- ht,hst,List.append_nil]
   have hde2:∀X,a0b (E0 X) 103 [.int .i64 2,.int .i64 (seq:Int),.int .i64 ((F+i:Nat):Int),.sl 1 (bb.map u8A)] [] (fun r H'=>r=.tup [.nils,.bool false]/\H'=[]):=hde
   apply ds rfl rfl rfl rfl
   ·refine Ck (fun _=>rfl) rfl (a0f (E:=E0 X) hde2 (by simp [a0e,a0d]) _) ?_
    exact nx rfl rfl ⟨rfl,rfl⟩
   repeat' (first|refine Zs rfl ?_|refine Zd rfl ?_|refine Zc rfl ?_|refine Zh ?_|refine Qs ?_)
   refine a0c ⟨_,rfl,1,_,rfl,?_,?_⟩
   ·rw [<- ho,List.length_map]
   ·rw [<- ho];rfl
  | some p =>
   have hpl:=(a2e hd).1
   rw [hd] at hst hde
   have hde2:∀X,a0b (E0 X) 103 [.int .i64 2,.int .i64 (seq:Int),.int .i64 ((F+i:Nat):Int),.sl 1 (bb.map u8A)] [] (fun r H'=>r=.tup [.sl 1 (p.map u8A),.bool true]/\H'=[]):=hde
   apply ds rfl rfl rfl rfl
   ·refine Ck (fun _=>rfl) rfl (a0f (E:=E0 X) hde2 (by simp [a0e,a0d]) _) ?_
    exact nx rfl rfl ⟨rfl,rfl⟩
   repeat' (first|refine Zs rfl ?_|refine Zd rfl ?_|refine Zc rfl ?_|refine Qa rfl ?_)
   refine a0V (oid:=some 1) (es:=out.map u8A) (out:=(out++p).map u8A) (n:=out.length+59) (a0M rfl (List.length_map _).symm) (rfl) (a0P _) (by rw [List.map_append]) (by rw [List.length_map,List.length_map,hpl]) (by show _<=9223372036854775807;omega) (by show _*1<=_;omega) rfl rfl rfl rfl rfl rfl rfl rfl ?_
   refine nx rfl rfl ?_
   repeat' (first|refine Zs rfl ?_|refine Zc rfl ?_|refine Zh ?_|refine Qs ?_)
   rw [hiw]
   refine ⟨(i+1,out++p),⟨⟨by show 1<=i+1;omega,hlt⟩,by show (out++p).length<=59*(i+1);rw [List.length_append,hpl];omega,by show (out++p)++a4L img seq (l.rs.toNat - (i+1)) (F+(i+1))=tot;rw [<- ht,hst,List.append_assoc]⟩,hmeas,?_⟩
   refine a0S 1 [2] (H':=[some (.cells [.int .i64 l.id,.int .i64 l.ver,.int .i64 l.rs,.int .i64 l.regs] 23),some (.arr ((out++p).map u8A) 5)]) (os:=[.arr ((out++p).map u8A) 5]) (Nat.zero_le _) ?_ ?_ ?_ ?_ rfl ?_ ?_ ?_
   ·simp
   ·simp
   ·simp
   ·intro j o ho
    match j,ho with
    | 0,ho=>cases ho;exact ⟨trivial,trivial,trivial,trivial,trivial⟩
   ·rfl
   ·refine a0a (a0v rfl (a0h fun _=>a0k)) (a0a (a0v rfl trivial) (a0a ?_ (a0a (a0v rfl (a6l _)) (a0a (a0v rfl trivial) a0l))))
    rw [show (out++p).length=out.length+59 by rw [List.length_append,hpl]]
    exact a0L rfl
   ·exact a0E rfl (a0A 1 a2m (a0h fun _=>a0k)) a0T
 rw [decide_eq_false (show ¬ (i:Int)<((xs.map iA).length:Int) by rw [hxm];omega)]
 have hz:a4L img seq (l.rs.toNat - i) (F+i)=[]:=by rw [show l.rs.toNat - i=0 by omega];rfl
 have ho:out=tot:=by rw [<- ht,hz,List.append_nil]
 repeat' (first|refine Zs rfl ?_|refine Zc rfl ?_|refine Zh ?_|refine Qs ?_)
 refine a0c ⟨_,rfl,1,_,rfl,?_,?_⟩
 ·rw [<- ho,List.length_map]
 ·rw [<- ho];rfl
theorem b7x{off:Nat}(h:off<=2000000):IntKind.i64.wrap (IntKind.i64.wrap (IntKind.i64.wrap (Int.tdiv (off:Int) 59)+1)*59)=(((off / 59+1)*59:Nat):Int):=by
 have hr:IntKind.i64.wrap (Int.tdiv (off:Int) 59)=((off / 59:Nat):Int):=by
  rw [show Int.tdiv (off:Int) 59=((off / 59:Nat):Int) from rfl]
  exact a0r (by omega) (by omega)
 have hs:IntKind.i64.wrap (((off / 59:Nat):Int)+1)=((off / 59+1:Nat):Int):=a0x (by omega) (by omega) (by omega)
 rw [hr,hs]
 exact a0x (by omega) (by omega) (by omega)
theorem b6e(l:List (Nat × Rec)):HOk 1 [some (.arr (l.map foA) 118)]:=fun j o ho=>by
 match j,ho with
 | 0,ho=>cases ho;exact a0h fun _=>a2f
theorem b7D(X:Nat->Prop)(ver:Int)(hv:ver=1\/ver=2)(seq off:Nat)(b:List UInt8)(hs:seq<9223372036854775808)(ho:off<=2147483647)(hb:b.length<=1000000) :
  a0b (E0 X) 25 [.int .i64 ver,.int .i64 (seq:Int),.int .i64 (off:Int),.sl 1 (b.map u8A)] [] (fun r H'=>r=c2D (a5v ver seq off b)/\H'=[]):=by
 rcases hv with rfl|rfl
 ·exact b7E X 1 (.inl rfl) seq off b hs ho hb
 ·exact b7E X 2 (.inr rfl) seq off b hs ho hb
theorem b4L(X:Nat->Prop)(ver:Int)(hv:ver=1\/ver=2)(seq:Nat)(b:List UInt8)(hs:seq<9223372036854775808)(hbl:b.length<=130000) :
  a0b (E0 X) 102 [.sl 1 (b.map u8A),.int .i64 ver,.int .i64 (seq:Int)] [] (fun r H'=>r=.sl 6 ((recs ver seq b).map foA)/\H'=[]):=by
 refine a0b.frz0 (e:=118) 6 ?_ rfl rfl (a0h fun _=>a2f)
 have hbm:(b.map u8A).length=b.length:=List.length_map _
 generalize htot:recs ver seq b=tot
 refine Z0 Proofs.Tryz.func102 rfl Proofs.Tryz.ntmps102 (by kernel_rfl) rfl ?_
 repeat' (first|refine Zs rfl ?_|refine Zc rfl ?_)
 refine a0s (fun p:Nat × Nat × List (Nat × Rec)=>⟨[(0,.sl 1 (b.map u8A)),(1,.int .i64 ver),(2,.int .i64 (seq:Int)),(7,.own 0 0 p.2.2.length),(8,.int .i64 (p.2.1:Int))],[some (.arr (p.2.2.map foA) 118)]⟩)
  (fun p=>p.2.1<=b.length+59/\p.2.2.length<=p.2.1/\b.length<=p.1+p.2.1/\p.2.2++a4b ver seq b p.1 p.2.1=tot) (fun p=>p.1) (b.length,0,[]) ⟨Nat.zero_le _,Nat.le_refl _,by show b.length<=b.length+0;omega,htot⟩ ?_ ?_
 ·exact Imp.trans (imp_nil 7 118 rfl) (kk 1 (b6e []) rfl (by simp [a0d,a0e]))
 rintro ⟨n,off,out⟩ ⟨ho0,hl0,hf0,ht0⟩
 have ho:off<=b.length+59:=ho0
 have hol:out.length<=off:=hl0
 have hfu:b.length<=n+off:=hf0
 have ht:out++a4b ver seq b n off=tot:=ht0
 clear ho0 hl0 hf0 ht0
 show AWp _ _ _ _ _ ⟨[(0,.sl 1 (b.map u8A)),(1,.int .i64 ver),(2,.int .i64 (seq:Int)),(7,.own 0 0 out.length),(8,.int .i64 (off:Int))],[some (.arr (out.map foA) 118)]⟩
 have hpw:=b7x (off:=off) (by omega)
 repeat' (first|refine Zs rfl ?_|refine Zc rfl ?_|refine Zh ?_|refine Qs ?_)
 by_cases hlt:off<b.length
 ·rw [decide_eq_true (show (off:Int)<((b.map u8A).length:Int) by omega)]
  obtain ⟨n,rfl⟩:∃k,n=k+1:=⟨n - 1,by omega⟩
  rw [a5K n hlt] at ht
  obtain ⟨x,hx⟩:∃x,b[off]?=some x:=⟨_,List.getElem?_eq_getElem hlt⟩
  rw [hx] at ht
  repeat' (first|refine Zs rfl ?_|refine Zc rfl ?_|refine Qa rfl ?_)
  refine a0C hx rfl rfl rfl rfl rfl rfl rfl (by first|rfl|omega) rfl ?_
  refine nx rfl rfl ?_
  repeat' (first|refine Zs rfl ?_|refine Zh ?_|refine Qs ?_)
  by_cases hx0:x=0
  ·rw [if_pos (by rw [hx0])] at ht
   rw [decide_eq_true (show (x.toNat:Int)=0 by rw [hx0];rfl)]
   repeat' (first|refine Zs rfl ?_|refine Zc rfl ?_|refine Qs ?_|refine Qt ?_|refine Qv ?_)
   rw [hpw]
   refine ⟨(n,(off / 59+1)*59,out),⟨by show (off / 59+1)*59<=b.length+59;omega,by show out.length<=(off / 59+1)*59;omega,by show b.length<=n+(off / 59+1)*59;omega,ht⟩,Nat.lt_succ_self n,?_⟩
   exact kk 1 (b6e out) rfl (by simp [a0d,a0e])
  rw [if_neg (fun e=>hx0 (Option.some.inj e))] at ht
  rw [decide_eq_false (show ¬ (x.toNat:Int)=0 from fun e=>hx0 (UInt8.toNat_inj.1 (by simpa using e)))]
  have hde:=fun X=>b7D X ver hv seq off (b.drop off) (by omega) (by omega) (by rw [List.length_drop];omega)
  have hlr:∀r,a5v ver seq off (b.drop off)=some r->off+a1M r<=b.length:=fun r hr=>by
   have:=(a6Z hr).1
   rw [List.length_drop] at this
   omega
  repeat' (first|refine Zs rfl ?_|refine Zc rfl ?_|refine Qa rfl ?_)
  refine a1f (l:=off) (h:=(b.map u8A).length) (ys:=b.drop off) (a0q rfl rfl) (a1u) (by omega) (by omega) (by rw [hbm,List.take_length]) rfl rfl rfl rfl rfl ?_
  refine nx rfl rfl ?_
  cases hd:a5v ver seq off (b.drop off) with
  | none =>
   rw [hd] at ht hde
   have ho2:out=tot:=by rw [<- ht,List.append_nil]
   have hde2:∀X,a0b (E0 X) 25 [.int .i64 ver,.int .i64 (seq:Int),.int .i64 (off:Int),.sl 1 ((b.drop off).map u8A)] [] (fun r H'=>r=.tup [.agg [.int .i64 0,.nils,.nils,.int .i64 0],.int .i64 0,.bool false]/\H'=[]):=hde
   generalize b.drop off=bo at *
   repeat' (refine Qa rfl ?_)
   refine Cn rfl (a0f (E:=E0 X) (fun X=>hde2 X) (by simp [a0e,a0d]) _) rfl rfl ?_
   repeat' (first|refine Zs rfl ?_|refine Zc rfl ?_|refine Zh ?_|refine Qs ?_)
   refine a0c ⟨_,rfl,0,_,rfl,?_,?_⟩
   ·rw [<- ho2,List.length_map]
   ·rw [<- ho2];rfl
  | some r =>
   rw [hd] at ht hde
   have hl2:=hlr r hd
   have hl3:16<=a1M r:=by simp only [a1M];omega
   have hde2:∀X,a0b (E0 X) 25 [.int .i64 ver,.int .i64 (seq:Int),.int .i64 (off:Int),.sl 1 ((b.drop off).map u8A)] [] (fun q H'=>q=.tup [.agg [.int .i64 r.kind,.sl 1 (r.key.map u8A),.sl 1 (r.val.map u8A),.int .i64 r.exp],.int .i64 (a1M r:Int),.bool true]/\H'=[]):=hde
   have hwo:IntKind.i64.wrap ((off:Int)+(a1M r:Int))=((off+a1M r:Nat):Int):=a0x (by omega) (by omega) (by omega)
   have htt:(out++[(off,r)])++a4b ver seq b n (off+a1M r)=tot:=by rw [<- ht,List.append_assoc];rfl
   have hol2:(out++[(off,r)]).length<=off+a1M r:=by rw [List.length_append];show out.length+1<=_;omega
   have hfu2:b.length<=n+(off+a1M r):=by omega
   have hoff2:off+a1M r<=b.length+59:=by omega
   generalize hL:a1M r=L at *
   generalize b.drop off=bo at *
   repeat' (refine Qa rfl ?_)
   refine Cn rfl (a0f (E:=E0 X) (fun X=>hde2 X) (by simp [a0e,a0d]) _) rfl rfl ?_
   repeat' (first|refine Zs rfl ?_|refine Zc rfl ?_|refine Qa rfl ?_)
   refine a0V (oid:=some 0) (es:=out.map foA) (out:=(out++[(off,r)]).map foA) (n:=out.length+1) (a0M rfl (List.length_map _).symm) (rfl) ((by have h9:=b3t [(off,r)];simp only [List.map,foA,c3v,hL] at h9;exact h9)) (by rw [List.map_append,<- hL];rfl) (by rw [List.length_map];rfl) (by show _<=9223372036854775807;omega) (by show _*80<=_;omega) rfl rfl rfl rfl rfl rfl rfl rfl ?_
   refine nx rfl rfl ?_
   repeat' (first|refine Zs rfl ?_|refine Zc rfl ?_|refine Zh ?_|refine Qs ?_|refine Qu ?_)
   rw [hwo]
   refine ⟨(n,off+L,out++[(off,r)]),⟨hoff2,hol2,hfu2,htt⟩,Nat.lt_succ_self n,?_⟩
   refine a0S 0 [2] (H':=[some (.arr ((out++[(off,r)]).map foA) 118)]) (os:=[.arr ((out++[(off,r)]).map foA) 118]) (Nat.le_refl _) ?_ ?_ ?_ ?_ rfl ?_ ?_ ?_
   ·simp
   ·simp
   ·simp
   ·exact a0X
   ·rfl
   ·refine a0a (a0v rfl (a0h fun _=>a0k)) (a0a (a0v rfl trivial) (a0a (a0v rfl trivial) (a0a ?_ (a0a (a0v rfl trivial) a0l))))
    rw [List.length_append];exact a0L rfl
   ·exact a0E rfl (a0A 0 a2m (a0h fun _=>a2f)) a0T
 rw [decide_eq_false (show ¬ (off:Int)<((b.map u8A).length:Int) by omega)]
 rw [a5J n (by omega),List.append_nil] at ht
 repeat' (first|refine Zs rfl ?_|refine Zc rfl ?_|refine Zh ?_|refine Qs ?_)
 refine a0c ⟨_,rfl,0,_,rfl,?_,?_⟩
 ·rw [<- ht,List.length_map]
 ·rw [<- ht];rfl
theorem b0K(X:Nat->Prop)(img:List UInt8)(hi:img.length<=1073741824)(l:La)(slot:Int)(seq:Nat)(h:a2i l slot)(hver:l.ver=1\/l.ver=2)(hs1:1<=seq)(hs2:seq<=281474976710655) :
  a0b (E0 X) 52 [.sl 1 (img.map u8A),laA l,.int .i64 slot,.int .i64 (seq:Int)] [] (fun r H'=>r=.sl 6 ((recs l.ver seq (a4L img seq (l.rs.toNat - 1) ((74+slot*l.rs).toNat+1))).map foA)/\H'=[]):=by
 refine a0b.cut0 ?_ (a0h fun _=>a2f)
 have hst:=fun X=>b0O X img hi l slot seq h hs1 hs2
 have hsl:=a7n img seq (l.rs.toNat - 1) ((74+slot*l.rs).toNat+1)
 have hrs:=a1z h.1
 have hbl:(a4L img seq (l.rs.toNat - 1) ((74+slot*l.rs).toNat+1)).length<=130000:=by omega
 generalize a4L img seq (l.rs.toNat - 1) ((74+slot*l.rs).toNat+1)=b at *
 have hre:=fun X=>b4L X l.ver hver seq b (by omega) hbl
 have hn2:¬ (seq:Int)<1:=by omega
 have hn3:¬ (281474976710655:Int)<(seq:Int):=by omega
 show a0b (E0 X) 52 [.sl 1 (img.map u8A),.agg [.int .i64 l.id,.int .i64 l.ver,.int .i64 l.rs,.int .i64 l.regs],.int .i64 slot,.int .i64 (seq:Int)] [] _
 refine Z0 Proofs.Tryz.func52 rfl Proofs.Tryz.ntmps52 (by kernel_rfl) rfl ?_
 repeat' (first|refine Zs rfl ?_|refine Zc rfl ?_)
 rw [decide_eq_false hn2]
 repeat' (first|refine Zs rfl ?_|refine Zh ?_|refine Qs ?_)
 rw [decide_eq_false hn3]
 repeat' (refine Zc rfl ?_)
 refine a0p [] [] (by exact rfl) (by kernel_rfl) ?_
 repeat' (refine Zd rfl ?_)
 apply ds rfl rfl rfl rfl
 ·refine Ck (fun _=>rfl) rfl (a0f (E:=E0 X) hst (by simp [a0e,a0d]) _) ?_
  exact nx rfl rfl ⟨rfl,rfl⟩
 repeat' (refine Zd rfl ?_)
 apply ds rfl rfl rfl rfl
 ·refine Ck (fun _=>rfl) rfl (a0f (E:=E0 X) hre (by simp [a0e,a0d]) _) ?_
  exact nx rfl rfl ⟨rfl,rfl⟩
 repeat' (first|refine Zd rfl ?_|refine Zk ?_|refine Qs ?_)
 exact a0c ⟨_,rfl,rfl⟩
theorem b4m{k s n:Nat}{b:List UInt8}(h:b.length≠64):a2A k s n b=none:=by
 unfold a2A
 rw [if_neg fun hh=>h hh.1]
theorem a8h{L:Nat}{v:Dv}(hv:Lv L v)(seq:Nat):∀n s,a9R v seq n s=a4L v.image seq n s
 | 0,_=>rfl
 | n+1,s=>by
  have ih:=a8h hv seq n (s+1)
  have e1:a9R v seq (n+1) s=if v.check (s:Int)≠0 then [] else match a2A 2 seq s ((v.image.drop (s*64)).take 64) with
    | none=>[]
    | some p=>p++a9R v seq n (s+1):=rfl
  have e2:a4L v.image seq (n+1) s=match a2A 2 seq s (a4H v.image (s:Int)) with
    | none=>[]
    | some p=>p++a4L v.image seq n (s+1):=rfl
  have h64:=hv.inv.load.1
  rw [e1,e2,a3K hv.inv,hv.dead,ih]
  simp only [Bool.false_eq_true,if_false]
  by_cases hin:s*64+64<=v.image.length
  ·rw [if_neg (show ¬ ((s:Int)<0\/((v.image.length / 64:Nat):Int)<=(s:Int)) by omega)]
   simp only [ne_eq,not_true_eq_false,if_false]
   have e3:a4H v.image (s:Int)=(v.image.drop (s*64)).take 64:=by
    unfold a4H
    rw [if_neg (by omega),Int.toNat_natCast]
   rw [e3]
  rw [if_pos (show ((s:Int)<0\/((v.image.length / 64:Nat):Int)<=(s:Int)) by omega)]
  have e3:a4H v.image (s:Int)=[]:=by
   unfold a4H
   rw [if_pos (by omega)]
  rw [if_pos (by decide),e3,b4m (by decide)]
def baA(b:Int × List (Nat × Rec)):AV:=.agg [.int .i64 b.1,.sl 6 (b.2.map foA)]
def flB(l:List (Int × List (Nat × Rec))):List FR:=l.flatMap fun b=>b.2.map fun p=>(b.1,p)
theorem a4S(l:List (Int × List (Nat × Rec))):a0e 0 (l.map baA):=a0h fun b=>⟨trivial,a0h fun _=>a2f,trivial⟩
end Go.Abs
