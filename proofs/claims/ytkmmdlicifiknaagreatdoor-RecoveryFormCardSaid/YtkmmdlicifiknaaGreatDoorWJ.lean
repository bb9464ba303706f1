/- The stream of a region, by the program. Joined texts, each with what its own name promises; no condition beyond those stated. -/
import Derived.Test.YtkmmdlicifiknaaGreatDoorWC
import Derived.Test.YtkmmdlicifiknaaGreatDoorWI
import Derived.Test.YtkmmdlicifiknaaGreatDoorWG
set_option maxHeartbeats 0
set_option maxRecDepth 100000
set_option linter.all false
namespace Go.Abs
def b0C(v:Dv)(seq:Nat):Nat->Nat->List UInt8
 | 0,_=>[]
 | n+1,s=>if v.check (s:Int)≠0 then [] else match a2M 2 seq s ((v.image.drop (s*64)).take 64) with
  | none=>[]
  | some p=>p++b0C v seq n (s+1)
theorem c2y(v:Dv)(l:La)(o:List UInt8):HOk 5 (a1c v++[some (.cells [.int .i64 l.id,.int .i64 l.ver,.int .i64 l.rs,.int .i64 l.regs] 23),some (.arr (o.map u8A) 5)]):=fun j o' ho=>by
 match j,ho with
 | 0,ho=>cases ho;exact ⟨by simp [a0g],by simp [a0g],trivial,trivial,trivial,trivial⟩
 | 1,ho=>cases ho;exact a0h fun _=>a0n
 | 2,ho=>cases ho;exact ⟨by rw [List.map_map];exact a0h fun _=>trivial,by rw [List.map_map];exact a0h fun p=>(a0h (f:=u8A) fun _=>a0n:a0e _ (p.2.map u8A))⟩
 | 3,ho=>cases ho;exact ⟨trivial,trivial,trivial,trivial,trivial⟩
 | 4,ho=>cases ho;exact a0h fun _=>a0n
attribute [local irreducible] a0B a1G AWp Nx awM
theorem c1Q(X:Nat->Prop)(v:Dv)(hv:v.Inv)(l:La)(slot:Int)(seq most:Nat)(h:a3M l slot)(hmo:(most:Int)<=(l.rs - 1)*59)(hs1:1<=seq)(hs2:seq<=281474976710655) :
  a0b (E0 X) 73 [.ptr 0 0,laA l,.int .i64 slot,.int .i64 (seq:Int),.int .i64 (most:Int)] (a1c v) (fun r H'=>r=.tup [.sl 1 ((b0C v seq ((most+58) / 59) ((74+slot*l.rs).toNat+1)).map u8A),.bool true]/\H'=a1c v):=by
 have hlv:v.image.length<=1073741824:=by have:=hv.load.2.2;omega
 refine a0b.cutDv ?_ ⟨a0h fun _=>a0n,trivial,trivial⟩
 have hfc:=fun X=>b2i X l slot
 obtain ⟨hf,h0,h1⟩:=h
 have hm:=a2Z hf h0 h1
 have hr:=a1M hf
 rw [show a1e l slot=74+slot*l.rs from if_pos ⟨hf,h0,h1⟩] at hfc
 obtain ⟨N,hN⟩:∃N,N=(most+58) / 59:=⟨_,rfl⟩
 rw [<- hN]
 have hN1:N<=l.rs.toNat - 1:=by omega
 obtain ⟨F,hF⟩:=Int.eq_ofNat_of_zero_le (show 0<=74+slot*l.rs by omega)
 rw [hF] at hfc
 rw [hF,Int.toNat_natCast]
 have hF2:F<=32842:=by omega
 have wr:∀x:Int,0<=x->x<=1000000->IntKind.i64.wrap x=x:=fun x a b=>a0p (by omega) (by omega)
 have hn1:¬ (F:Int)<0:=by omega
 have hn2:¬ (seq:Int)<1:=by omega
 have hn3:¬ (281474976710655:Int)<(seq:Int):=by omega
 generalize htot:b0C v seq (N) (F+1)=tot
 show a0b (E0 X) 73 [.ptr 0 0,.agg [.int .i64 l.id,.int .i64 l.ver,.int .i64 l.rs,.int .i64 l.regs],.int .i64 slot,.int .i64 (seq:Int),.int .i64 (most:Int)] (a1c v) _
 refine Z0 Proofs.Tryz.func73 rfl Proofs.Tryz.ntmps73 (by kernel_rfl) rfl ?_
 repeat' (first|refine Zs rfl ?_|refine Zc rfl ?_|refine Qa rfl ?_)
 refine Cn rfl (a0f (E:=E0 X) (fun X=>hfc X) (by simp [a0e,a0g]) _) rfl rfl ?_
 repeat' (first|refine Zs rfl ?_|refine Zc rfl ?_)
 rw [decide_eq_false hn1]
 skip
 rw [decide_eq_false hn2]
 repeat' (first|refine Zs rfl ?_|refine Zh ?_|refine Qs ?_)
 rw [decide_eq_false hn3]
 repeat' (first|refine Zs rfl ?_|refine Zc rfl ?_)
 rw [wr _ (by omega) (by omega)]
 refine a0q (fun p:Nat × List UInt8=>⟨[(0,.ptr 0 0),(3,.int .i64 (seq:Int)),(4,.int .i64 (most:Int)),(6,.ptr 3 0),(12,.int .i64 (F:Int)),(13,.own 4 0 p.2.length),(14,.int .i64 ((F+1+p.1:Nat):Int))],a1c v++[some (.cells [.int .i64 l.id,.int .i64 l.ver,.int .i64 l.rs,.int .i64 l.regs] 23),some (.arr (p.2.map u8A) 5)]⟩)
  (fun p=>p.1<=N/\p.2.length=59*p.1/\p.2++b0C v seq (N - p.1) (F+1+p.1)=tot) (fun p=>N - p.1) (0,[]) ⟨Nat.zero_le _,rfl,htot⟩ ?_ ?_
 ·exact Imp.trans (imp_nil 13 5 rfl) (kk 5 (c2y v l []) rfl (by simp [a0g,a0e]))
 rintro ⟨i,out⟩ ⟨hi0,hol0,hr20⟩
 have hi:i<=N:=hi0
 have hol:out.length=59*i:=hol0
 have hr2:out++b0C v seq (N - i) (F+1+i)=tot:=hr20
 clear hi0 hol0 hr20
 show AWp _ _ _ _ _ ⟨[(0,.ptr 0 0),(3,.int .i64 (seq:Int)),(4,.int .i64 (most:Int)),(6,.ptr 3 0),(12,.int .i64 (F:Int)),(13,.own 4 0 out.length),(14,.int .i64 ((F+1+i:Nat):Int))],a1c v++[some (.cells [.int .i64 l.id,.int .i64 l.ver,.int .i64 l.rs,.int .i64 l.regs] 23),some (.arr (out.map u8A) 5)]⟩
 repeat' (first|refine Zs rfl ?_|refine Zc rfl ?_)
 rw [wr ((F:Int)+l.rs) (by omega) (by omega)]
 by_cases hlt:i<N
 ·rw [decide_eq_true (show ((F+1+i:Nat):Int)<(F:Int)+l.rs by omega)]
  repeat' (first|refine Zs rfl ?_|refine Zh ?_|refine Qs ?_)
  rw [decide_eq_true (show (out.length:Int)<(most:Int) by omega)]
  repeat' (first|refine Zs rfl ?_|refine Zc rfl ?_|refine Qa rfl ?_)
  have hst:b0C v seq (N - i) (F+1+i)=if v.check ((F+1+i:Nat):Int)≠0 then [] else match a2M 2 seq (F+1+i) ((v.image.drop ((F+1+i)*64)).take 64) with
    | none=>[]
    | some p=>p++b0C v seq (N - (i+1)) (F+1+(i+1)):=by
   have e:N - i=(N - (i+1))+1:=by omega
   rw [e];rfl
  have hrd:=a6z X v ((F+1+i:Nat):Int) hlv [] [some (.cells [.int .i64 l.id,.int .i64 l.ver,.int .i64 l.rs,.int .i64 l.regs] 23),some (.arr (out.map u8A) 5)] 0 rfl
  rw [Int.toNat_natCast] at hrd
  have hci:=a5Q hv (i:=((F+1+i:Nat):Int))
  have hSw:IntKind.i64.wrap (((F+1+i:Nat):Int)+1)=((F+1+(i+1):Nat):Int):=a0u (by omega) (by omega) (by omega)
  have hSb:F+1+i<1048576:=by omega
  have hmeas:N - (i+1)<N - i:=Nat.sub_lt_sub_left hlt (Nat.lt_succ_self i)
  have hi1:i+1<=N:=hlt
  have hol1:out.length+59=59*(i+1):=by rw [hol,Nat.mul_succ]
  by_cases hc:v.check ((F+1+i:Nat):Int)=0
  ·obtain ⟨-,k,hk,hk2⟩:=hci hc
   have hkk:k=F+1+i:=by omega
   subst hkk
   rw [if_neg (by rw [hc];simp)] at hst
   have hbl:((v.image.drop ((F+1+i)*64)).take 64).length=64:=by simp;omega
   generalize (v.image.drop ((F+1+i)*64)).take 64=bb at *
   have hde:=fun X=>b3B X 2 seq (F+1+i) bb ⟨by decide,by decide,hSb⟩ (by omega) (by omega)
   generalize hS:F+1+i=S at *
   refine a1h (fun _=>rfl) rfl ?_
   refine a0b.mono hrd ?_
   rintro r H' (⟨hc2,-,-⟩|⟨-,rfl,rfl⟩)
   ·exact absurd hc hc2
   refine nx rfl rfl ?_
   repeat' (first|((refine Qa rfl ?_);(first|refine Q0 ?_|refine Q1 ?_|refine QC rfl rfl ?_);(refine QX rfl rfl ?_))|refine Qh ?_)
   refine a2s ?_
   cases hd:a2M 2 seq S bb with
   | none =>
    rw [hd] at hst
    have ho:out=tot:=by rw [<- hr2,hst,List.append_nil]
    rw [<- ho]
    refine a0t (Imp.trans (a0M (id:=5) (k:=1) (es:=bb.map u8A) (e:=5) rfl rfl rfl) (Imp.trans (a0M (id:=4) (k:=1) (es:=out.map u8A) (e:=5) rfl rfl rfl) (a0i 3 (Nat.le_refl _) (a1N v) rfl (by simp [a1c,b5E])
     (sl':=[(3,.int .i64 (seq:Int)),(13,.sl 1 (out.map u8A)),(14,.int .i64 (S:Int)),(15,.sl 1 (bb.map u8A)),(16,.int .i64 0)]) ?_))) ?_
    ·repeat' (first|exact a0k|refine a0a ⟨?_,?_⟩ ?_)
     all_goals (try first|exact rfl|exact trivial|exact a0h fun _=>a0n)
     ·show frz 4 1 (out.map u8A) (frz 5 1 (bb.map u8A) (.own 4 0 out.length))=_
      simp [frz,List.take_of_length_le]
     ·show frz 4 1 (out.map u8A) (frz 5 1 (bb.map u8A) (.own 5 0 64))=_
      simp [frz,hbl,List.take_of_length_le]
    repeat' (first|refine Zs rfl ?_|refine Zc rfl ?_|refine Qa rfl ?_)
    refine Ck (fun _=>rfl) rfl (a0f (E:=E0 X) (fun X=>hde X) (by simp [a0e,a0g]) _) ?_
    refine nx0 ?_
    rw [hd]
    repeat' (first|refine Zs rfl ?_|refine Zc rfl ?_|refine Zh ?_|refine Qs ?_)
    exact a0c ⟨_,rfl,rfl,rfl⟩
   | some p =>
    have hpl:=(a2D hd).1
    rw [hd] at hst
    refine a0t (Imp.trans (a0M (id:=5) (k:=1) (es:=bb.map u8A) (e:=5) rfl rfl rfl) (a0i 5 (by simp [a1c]) (c2y v l out) rfl (by simp [a1c,b5E])
     (sl':=[(0,.ptr 0 0),(3,.int .i64 (seq:Int)),(4,.int .i64 (most:Int)),(6,.ptr 3 0),(12,.int .i64 (F:Int)),(13,.own 4 0 out.length),(14,.int .i64 (S:Int)),(15,.sl 1 (bb.map u8A)),(16,.int .i64 0)]) ?_)) ?_
    ·repeat' (first|exact a0k|refine a0a ⟨?_,?_⟩ ?_)
     all_goals (try first|exact rfl|exact trivial|exact a0h (fun _=>a0n)|(simp [a0g,a0e];done))
     ·show frz 5 1 (bb.map u8A) (.own 5 0 64)=_
      simp [frz,hbl,List.take_of_length_le]
    repeat' (first|refine Zs rfl ?_|refine Zc rfl ?_|refine Qa rfl ?_)
    refine Ck (fun _=>rfl) rfl (a0f (E:=E0 X) (fun X=>hde X) (by simp [a0e,a0g]) _) ?_
    refine nx0 ?_
    rw [hd]
    repeat' (first|refine Zs rfl ?_|refine Zc rfl ?_|refine Qa rfl ?_)
    refine a0V (oid:=some 4) (es:=out.map u8A) (out:=(out++p).map u8A) (n:=out.length+59) (a0J rfl (List.length_map _).symm) (rfl) (a0P _) (by rw [List.map_append]) (by rw [List.length_map,List.length_map,hpl]) (by show _<=9223372036854775807;omega) (by show _*1<=_;omega) rfl rfl rfl rfl rfl rfl rfl rfl ?_
    refine nx rfl rfl ?_
    repeat' (first|refine Zs rfl ?_|refine Zc rfl ?_|refine Zh ?_|refine Qs ?_)
    refine ⟨(i+1,out++p),⟨hi1,by show (out++p).length=59*(i+1);rw [List.length_append,hpl];exact hol1,by show (out++p)++b0C v seq (N - (i+1)) (F+1+(i+1))=tot;rw [<- hr2,hst,List.append_assoc]⟩,hmeas,?_⟩
    refine a0L 4 [5] (H':=a1c v++[some (.cells [.int .i64 l.id,.int .i64 l.ver,.int .i64 l.rs,.int .i64 l.regs] 23),some (.arr ((out++p).map u8A) 5)]) (os:=[.arr ((out++p).map u8A) 5]) ?_ ?_ ?_ ?_ ?_ rfl ?_ ?_ ?_
    ·simp [a1c]
    ·simp [a1c]
    ·simp
    ·simp
    ·intro j o ho2
     match j,ho2 with
     | 0,ho2=>cases ho2;exact ⟨by simp [a0g],by simp [a0g],trivial,trivial,trivial,trivial⟩
     | 1,ho2=>cases ho2;exact a0h fun _=>a0n
     | 2,ho2=>cases ho2;exact ⟨by rw [List.map_map];exact a0h fun _=>trivial,by rw [List.map_map];exact a0h fun p=>(a0h (f:=u8A) fun _=>a0n:a0e _ (p.2.map u8A))⟩
     | 3,ho2=>cases ho2;exact ⟨trivial,trivial,trivial,trivial,trivial⟩
    ·rfl
    ·refine a0a (a0s rfl (by simp [a0g])) (a0a (a0s rfl trivial) (a0a (a0s rfl trivial) (a0a (a0s rfl (by simp [a0g])) (a0a (a0s rfl trivial) (a0a ?_ (a0a (a0s ?_ trivial) a0k))))))
     ·rw [show (out++p).length=out.length+59 by rw [List.length_append,hpl]]
      exact a0D rfl
     ·exact congrArg (AV.int .i64) hSw
    ·exact a0v rfl (a0A 4 a1V (a0h fun _=>a0n)) a0N
  rw [if_pos hc] at hst
  have ho:out=tot:=by rw [<- hr2,hst,List.append_nil]
  rw [<- ho]
  refine a1h (fun _=>rfl) rfl ?_
  refine a0b.mono hrd ?_
  rintro r H' (⟨-,rfl,rfl⟩|⟨hc2,-,-⟩)
  rotate_left
  ·exact absurd hc2 hc
  refine nx rfl rfl ?_
  repeat' (first|refine Zs rfl ?_|refine Zc rfl ?_|refine Zh ?_|refine Qs ?_)
  refine a0d rfl (fun h4=>?_) (fun h4=>?_)
  rotate_left
  ·exact absurd (by omega) hc
  repeat' (first|refine Zs rfl ?_|refine Zc rfl ?_|refine Zh ?_|refine Qs ?_)
  refine a0t (Imp.trans (a0M (id:=4) (k:=1) (es:=out.map u8A) (e:=5) rfl rfl rfl) (a0i 3 (Nat.le_refl _) (a1N v) rfl (by simp [a1c]) (sl':=[(10,.sl 1 (out.map u8A)),(11,.bool true)]) ?_)) ?_
  ·refine a0a ⟨?_,a0h fun _=>a0n⟩ (a0a ⟨rfl,trivial⟩ a0k)
   show frz 4 1 (out.map u8A) (.own 4 0 out.length)=_
   simp [frz,List.take_of_length_le]
  exact a0c ⟨_,rfl,rfl,rfl⟩
 have hz:b0C v seq (N - i) (F+1+i)=[]:=by
  rw [show N - i=0 by omega];rfl
 have ho:out=tot:=by rw [<- hr2,hz,List.append_nil]
 rw [<- ho]
 by_cases hg:i<l.rs.toNat - 1
 ·rw [decide_eq_true (show ((F+1+i:Nat):Int)<(F:Int)+l.rs by omega)]
  repeat' (first|refine Zs rfl ?_|refine Zh ?_|refine Qs ?_)
  rw [decide_eq_false (show ¬ (out.length:Int)<(most:Int) by omega)]
  repeat' (first|refine Zs rfl ?_|refine Zc rfl ?_|refine Zh ?_|refine Qs ?_)
  refine a0t (Imp.trans (a0M (id:=4) (k:=1) (es:=out.map u8A) (e:=5) rfl rfl rfl) (a0i 3 (Nat.le_refl _) (a1N v) rfl (by simp [a1c]) (sl':=[(10,.sl 1 (out.map u8A)),(11,.bool true)]) ?_)) ?_
  ·refine a0a ⟨?_,a0h fun _=>a0n⟩ (a0a ⟨rfl,trivial⟩ a0k)
   show frz 4 1 (out.map u8A) (.own 4 0 out.length)=_
   simp [frz,List.take_of_length_le]
  exact a0c ⟨_,rfl,rfl,rfl⟩
 rw [decide_eq_false (show ¬ ((F+1+i:Nat):Int)<(F:Int)+l.rs by omega)]
 repeat' (first|refine Zs rfl ?_|refine Zc rfl ?_|refine Zh ?_|refine Qs ?_)
 refine a0t (Imp.trans (a0M (id:=4) (k:=1) (es:=out.map u8A) (e:=5) rfl rfl rfl) (a0i 3 (Nat.le_refl _) (a1N v) rfl (by simp [a1c]) (sl':=[(10,.sl 1 (out.map u8A)),(11,.bool true)]) ?_)) ?_
 ·refine a0a ⟨?_,a0h fun _=>a0n⟩ (a0a ⟨rfl,trivial⟩ a0k)
  show frz 4 1 (out.map u8A) (.own 4 0 out.length)=_
  simp [frz,List.take_of_length_le]
 exact a0c ⟨_,rfl,rfl,rfl⟩
theorem c1P(X:Nat->Prop)(v:Dv)(hv:v.Inv)(l:La)(slot:Int)(seq:Nat)(h:a3M l slot)(hs1:1<=seq)(hs2:seq<=281474976710655) :
  a0b (E0 X) 73 [.ptr 0 0,laA l,.int .i64 slot,.int .i64 (seq:Int),.int .i64 (c5M l)] (a1c v) (fun r H'=>r=.tup [.sl 1 ((b0C v seq (l.rs.toNat - 1) ((74+slot*l.rs).toNat+1)).map u8A),.bool true]/\H'=a1c v):=by
 have hr:=a1M h.1
 have hm:=c1Q X v hv l slot seq (59*(l.rs.toNat - 1)) h (by omega) hs1 hs2
 rw [show (59*(l.rs.toNat - 1)+58) / 59=l.rs.toNat - 1 by omega,show ((59*(l.rs.toNat - 1):Nat):Int)=c5M l from by rw [show c5M l=(l.rs - 1)*59 from if_pos h.1];omega] at hm
 exact hm
def b0E(ver:Int)(seq off:Nat)(b:List UInt8)(kd kl vl ex:Nat):Option Rec :=
 if 65536<vl\/b.length<16+kl+vl then none
 else if a3U ver ⟨(kd:Int),(b.drop 16).take kl,(b.drop (16+kl)).take vl,(ex:Int)⟩=0/\a2d ver seq off ⟨(kd:Int),(b.drop 16).take kl,(b.drop (16+kl)).take vl,(ex:Int)⟩=b.take (16+kl+vl)
  then some ⟨(kd:Int),(b.drop 16).take kl,(b.drop (16+kl)).take vl,(ex:Int)⟩ else none
def a6P(ver:Int)(seq off:Nat)(b:List UInt8):Option Rec :=
 if b.length<16 then none
 else if ver=1 then b0E ver seq off b (a0I ((b.drop 1).take 1)) (a0I ((b.drop 2).take 1)) (a0I ((b.drop 4).take 4)) (a0I ((b.drop 8).take 4))
 else b0E ver seq off b (a0I ((b.drop 2).take 1) / 16) (a0I ((b.drop 1).take 1)) (a0I ((b.drop 3).take 3)) (a0I ((b.drop 7).take 5))
def c8q:Option Rec->AV
 | none=>.tup [.agg [.int .i64 0,.nils,.nils,.int .i64 0],.int .i64 0,.bool false]
 | some r=>.tup [a6Z r,.int .i64 (a1K r:Int),.bool true]
theorem b4i(o:Option Rec){n:Nat}:a0g n (c8q o):=by
 cases o with
 | none=>exact ⟨⟨trivial,trivial,trivial,trivial,trivial⟩,trivial,trivial,trivial⟩
 | some r=>exact ⟨a2F,trivial,trivial,trivial⟩
theorem b2g(b:List UInt8)(lo w:Nat)(h:lo+w<=11):((((b.drop 1).take 11).drop lo).take w)=(b.drop (1+lo)).take w:=by
 rw [List.drop_take,List.take_take,List.drop_drop,Nat.min_eq_left (by omega)]
theorem b3x{ver:Int}{seq off:Nat}{b:List UInt8}{kd kl vl ex:Nat}{r:Rec}(h:b0E ver seq off b kd kl vl ex=some r):a1K r<=b.length/\a3U ver r=0/\a2d ver seq off r=b.take (a1K r):=by
 unfold b0E at h
 split at h
 ·cases h
 rename_i h1
 split at h
 ·rename_i h2
  injection h with h
  subst h
  have e1:a1K ⟨(kd:Int),(b.drop 16).take kl,(b.drop (16+kl)).take vl,(ex:Int)⟩=16+kl+vl:=by
   simp only [a1K,List.length_take,List.length_drop];omega
  exact ⟨by omega,h2.1,by rw [e1];exact h2.2⟩
 ·cases h
theorem a7u{ver:Int}{seq off:Nat}{b:List UInt8}{r:Rec}(h:a6P ver seq off b=some r):a1K r<=b.length/\a3U ver r=0/\a2d ver seq off r=b.take (a1K r):=by
 unfold a6P at h
 split at h
 ·cases h
 split at h
 ·exact b3x h
 ·exact b3x h
theorem num_1{bs:List UInt8}{lo:Nat}:a0I ((bs.drop lo).take 1)<=255:=by
 have h1:=b0a ((bs.drop lo).take 1)
 have h2:((bs.drop lo).take 1).length<=1:=by simp;omega
 have hp:256 ^ ((bs.drop lo).take 1).length<=256 ^ 1:=Nat.pow_le_pow_right (by decide) h2
 omega
theorem c7e(X:Nat->Prop)(bs:List UInt8)(lo w:Nat)(hw:1<=w)(hw6:w<=6)(h:lo+w<=bs.length)(hb:bs.length<=1000) :
  a0b (E0 X) 145 [.int .i64 (w:Int),.fp [.ptr 1 0]] (a2z bs lo) (fun r H'=>r=.int .i64 (a0I ((bs.drop lo).take w):Int)/\H'=a2z bs (lo+w)):=by
 have s1:=a0Z (bs:=bs) (lo:=lo) (w:=w) hw6
 have c1:=b7x X bs lo w hw (by omega) h hb
 generalize a0I ((bs.drop lo).take w)=n at *
 refine Z0 Proofs.Tryz.func145 rfl Proofs.Tryz.ntmps145 (by kernel_rfl) rfl ?_
 repeat' (first|refine Zs rfl ?_|refine Zc rfl ?_|refine Qa rfl ?_)
 refine Cn rfl (c1) rfl rfl ?_
 repeat' (first|refine Zs rfl ?_|refine Zh ?_|refine Qs ?_)
 refine a0c ⟨_,rfl,?_,?_⟩
 ·exact congrArg (AV.int .i64) (a3w s1)
 ·rfl
theorem c4G(X:Nat->Prop)(bs:List UInt8)(lo w:Nat)(hw:1<=w)(hw6:w<=6)(h:lo+w<=bs.length)(hb:bs.length<=1000)(L R:Hp)(s:Nat)(hs:L.length=s) :
  a0b (E0 X) 145 [.int .i64 (w:Int),.fp [.ptr (1+s) 0]] (L++a7p bs s lo++R) (fun r H'=>r=.int .i64 (a0I ((bs.drop lo).take w):Int)/\H'=L++a7p bs s (lo+w)++R):=by
 subst hs
 have hm:∀lo,a1U (sh L.length R.length 2) (a2z bs lo)=a7p bs L.length lo:=fun lo=>a3k _ 0 L.length bs lo (by simp [sh])
 refine a0b.conv (a0b.frameLR (E:=E0 X) (fun X=>c7e X bs lo w hw hw6 h hb) L R (a5d bs lo) ⟨trivial,⟨by simp [a0g,a2z],trivial⟩,trivial⟩ (a3Z bs lo)) ?_ (by rw [show (a2z bs lo).length=2 from rfl,hm]) ?_
 ·simp [rnL,rnA,sh,a2z]
 rintro q H' ⟨r1,h',⟨rfl,rfl⟩,-,rfl,rfl⟩
 refine ⟨rfl,?_⟩
 show L++a1U (sh L.length R.length 2) (a2z bs (lo+w))++R++[]=_
 rw [hm,List.append_nil]
theorem a6X(X:Nat->Prop)(b:List UInt8)(lo w p:Nat)(hp:p=1+lo)(hw:1<=w)(hw6:w<=6)(h:lo+w<=11)(hb:12<=b.length)(L R:Hp)(s:Nat)(hs:L.length=s) :
  a0b (E0 X) 145 [.int .i64 (w:Int),.fp [.ptr (1+s) 0]] (L++a7p ((b.drop 1).take 11) s lo++R) (fun r H'=>r=.int .i64 (a0I ((b.drop p).take w):Int)/\H'=L++a7p ((b.drop 1).take 11) s (lo+w)++R):=by
 have hl:((b.drop 1).take 11).length=11:=by simp;omega
 have:=c4G X ((b.drop 1).take 11) lo w hw hw6 (by omega) (by omega) L R s hs
 rw [b2g b lo w h,<- hp] at this
 exact this
def zR:AO:=.cells [.int .i64 0,.nils,.nils,.int .i64 0] 72
theorem c6C(bs:List UInt8)(lo:Nat):HOk 3 [some zR,some (.arr (bs.map u8A) 5),some (b5h bs 1 lo)]:=fun j o ho=>by
 match j,ho with
 | 0,ho=>cases ho;exact ⟨trivial,trivial,trivial,trivial,trivial⟩
 | 1,ho=>cases ho;exact a0h fun _=>a0n
 | 2,ho=>cases ho;exact ⟨by simp [a0g],trivial,trivial⟩
theorem b6X(bs:List UInt8)(lo:Nat)(a c:Int):HOk 4 [some zR,some (.arr (bs.map u8A) 5),some (b5h bs 1 lo),some (.cells [.int .i64 a,.nils,.nils,.int .i64 c] 72)]:=fun j o ho=>by
 match j,ho with
 | 0,ho=>cases ho;exact ⟨trivial,trivial,trivial,trivial,trivial⟩
 | 1,ho=>cases ho;exact a0h fun _=>a0n
 | 2,ho=>cases ho;exact ⟨by simp [a0g],trivial,trivial⟩
 | 3,ho=>cases ho;exact ⟨trivial,trivial,trivial,trivial,trivial⟩
theorem c7g(X:Nat->Prop)(ver:Int)(seq off:Nat)(b:List UInt8)(hs:seq<9223372036854775808)(ho:off<=2147483647)(hb:b.length<=1000000) :
  a0b (E0 X) 99 [.int .i64 ver,.int .i64 (seq:Int),.int .i64 (off:Int),.sl 1 (b.map u8A)] [] (fun r H'=>r=c8q (a6P ver seq off b)/\H'=[]):=by
 refine a0b.cut0 ?_ (b4i _)
 have hbm:(b.map u8A).length=b.length:=List.length_map _
 refine Z0 Proofs.Tryz.func99 rfl Proofs.Tryz.ntmps99 (by kernel_rfl) rfl ?_
 repeat' (first|refine Zs rfl ?_|refine Zc rfl ?_|refine Zh ?_|refine Qs ?_)
 by_cases h1:b.length<16
 ·rw [decide_eq_true (show ((b.map u8A).length:Int)<16 by omega)]
  have e:a6P ver seq off b=none:=if_pos h1
  rw [e]
  repeat' (first|refine Zs rfl ?_|refine Zc rfl ?_|refine Zh ?_|refine Qs ?_)
  exact a0c ⟨_,rfl,rfl⟩
 rw [decide_eq_false (show ¬ ((b.map u8A).length:Int)<16 by omega)]
 have hl11:((b.drop 1).take 11).length=11:=by simp;omega
 obtain ⟨kd,kl,vl,ex,hkl,hvl,hdec,c1,c2⟩:∃kd kl vl ex:Nat,kl<=255/\vl<=281474976710655/\a6P ver seq off b=b0E ver seq off b kd kl vl ex /\
   (ver=1->a0I ((b.drop 1).take 1)=kd/\a0I ((b.drop 2).take 1)=kl/\a0I ((b.drop 4).take 4)=vl/\a0I ((b.drop 8).take 4)=ex) /\
   (¬ ver=1->a0I ((b.drop 2).take 1) / 16=kd/\a0I ((b.drop 1).take 1)=kl/\a0I ((b.drop 3).take 3)=vl/\a0I ((b.drop 7).take 5)=ex):=by
  by_cases h2:ver=1
  ·exact ⟨_,_,_,_,num_1,a0Z (by decide),by unfold a6P;rw [if_neg h1,if_pos h2],fun _=>⟨rfl,rfl,rfl,rfl⟩,fun h=>absurd h2 h⟩
  ·exact ⟨_,_,_,_,num_1,a0Z (by decide),by unfold a6P;rw [if_neg h1,if_neg h2],fun h=>absurd h h2,fun _=>⟨rfl,rfl,rfl,rfl⟩⟩
 have p1:=fun R=>a6X X b 0 1 1 rfl (by decide) (by decide) (by decide) (by omega) [some zR] R 1 rfl
 have p2:=fun R=>a6X X b 1 1 2 rfl (by decide) (by decide) (by decide) (by omega) [some zR] R 1 rfl
 have p3:=fun R=>a6X X b 2 1 3 rfl (by decide) (by decide) (by decide) (by omega) [some zR] R 1 rfl
 have p4:=fun R=>a6X X b 3 4 4 rfl (by decide) (by decide) (by decide) (by omega) [some zR] R 1 rfl
 have p5:=fun R=>a6X X b 7 4 8 rfl (by decide) (by decide) (by decide) (by omega) [some zR] R 1 rfl
 have q3:=fun R=>a6X X b 2 3 3 rfl (by decide) (by decide) (by decide) (by omega) [some zR] R 1 rfl
 have q4:=fun R=>a6X X b 5 1 6 rfl (by decide) (by decide) (by decide) (by omega) [some zR] R 1 rfl
 have q5:=fun R=>a6X X b 6 5 7 rfl (by decide) (by decide) (by decide) (by omega) [some zR] R 1 rfl
 rw [hdec]
 clear hdec
 have hnr:=fun H x hx=>a9Z X ((b.drop 1).take 11) (by omega) H x hx
 have hn16:=num_1 (bs:=b) (lo:=2)
 repeat' (first|refine Zs rfl ?_|refine Zc rfl ?_|refine Qa rfl ?_)
 refine a1m (l:=1) (h:=12) (ys:=(b.drop 1).take 11) (a0r rfl rfl) (a0r rfl rfl) (by omega) (by omega) (by rw [List.drop_take]) rfl rfl rfl rfl rfl ?_
 refine nx rfl rfl ?_
 generalize (b.drop 1).take 11=hd at *
 repeat' (refine Qa rfl ?_)
 refine Cn rfl (hnr _ _ rfl) rfl rfl ?_
 repeat' (first|((refine Qa rfl ?_);(refine QJ rfl rfl ?_);(refine QX rfl rfl ?_))|(refine Qb rfl ?_;try (refine QS rfl rfl rfl rfl rfl rfl rfl ?_;(refine QX rfl rfl ?_)))|refine Qh ?_)
 refine a2s ?_
 refine a0t (a0X (id:=3) (cs:=[.ptr 2 0]) rfl) ?_
 refine Kc [0,1,2,3,8,11] 3 (c6C hd 0) rfl rfl (by simp [a0g,a0e]) ?_
 repeat' (first|refine Zs rfl ?_|refine Zc rfl ?_|refine Zh ?_|refine Qs ?_)
 refine a3f (s1:=⟨[(0,.int .i64 ver),(1,.int .i64 (seq:Int)),(2,.int .i64 (off:Int)),(3,.sl 1 (b.map u8A)),(8,.ptr 0 0),(13,.ptr 3 0),(14,.int .i64 (kl:Int)),(15,.int .i64 (vl:Int))],[some zR,some (.arr (hd.map u8A) 5),some (b5h hd 1 11),some (.cells [.int .i64 (kd:Int),.nils,.nils,.int .i64 (ex:Int)] 72)]⟩) ?_ ?_
 ·refine a0d rfl (fun h2=>?_) (fun h2=>?_)
  ·obtain ⟨e1,e2,e3,e4⟩:=c1 h2
   rw [e1] at p1
   rw [e2] at p2
   rw [e3] at p4
   rw [e4] at p5
   repeat' (first|refine Zs rfl ?_|refine Zc rfl ?_|refine Qa rfl ?_)
   refine Cn rfl (p1 _) rfl rfl ?_
   repeat' (first|refine Zs rfl ?_|refine Qa rfl ?_)
   refine Cn rfl (p2 _) rfl rfl ?_
   repeat' (first|refine Zs rfl ?_|refine Qa rfl ?_)
   refine Cn rfl (p3 _) rfl rfl ?_
   repeat' (first|refine Zs rfl ?_|refine Qa rfl ?_)
   refine Cn rfl (p4 _) rfl rfl ?_
   repeat' (first|refine Zs rfl ?_|refine Qa rfl ?_)
   refine Cn rfl (p5 _) rfl rfl ?_
   repeat' (first|refine Zs rfl ?_|refine Zh ?_)
   exact ⟨rfl,kk 4 (b6X hd 11 kd ex) rfl (by simp [a0g,a0e])⟩
  obtain ⟨e1,e2,e3,e4⟩:=c2 h2
  rw [e2] at p1
  rw [e3] at q3
  rw [e4] at q5
  generalize a0I ((b.drop 2).take 1)=n16 at *
  have hw16:IntKind.i64.wrap (Int.tdiv (n16:Int) 16)=(kd:Int):=by
   rw [<- e1,show Int.tdiv (n16:Int) 16=((n16 / 16:Nat):Int) from rfl]
   exact a0p (by omega) (by omega)
  repeat' (first|refine Zs rfl ?_|refine Zc rfl ?_|refine Qa rfl ?_)
  refine Cn rfl (p1 _) rfl rfl ?_
  repeat' (first|refine Zs rfl ?_|refine Qa rfl ?_)
  refine Cn rfl (p2 _) rfl rfl ?_
  repeat' (first|refine Zs rfl ?_|refine Qa rfl ?_)
  rw [hw16]
  refine Cn rfl (q3 _) rfl rfl ?_
  repeat' (first|refine Zs rfl ?_|refine Qa rfl ?_)
  refine Cn rfl (q4 _) rfl rfl ?_
  repeat' (first|refine Zs rfl ?_|refine Qa rfl ?_)
  refine Cn rfl (q5 _) rfl rfl ?_
  repeat' (first|refine Zs rfl ?_|refine Zh ?_)
  exact ⟨rfl,kk 4 (b6X hd 11 kd ex) rfl (by simp [a0g,a0e])⟩
 clear p1 p2 p3 p4 p5 q3 q4 q5 c1 c2 hnr hn16
 have w1:IntKind.i64.wrap (16+(kl:Int))=((16+kl:Nat):Int):=a0u (by omega) (by omega) (by omega)
 have w2:IntKind.i64.wrap (((16+kl:Nat):Int)+(vl:Int))=((16+kl+vl:Nat):Int):=a0u (by omega) (by omega) (by omega)
 repeat' (first|refine Zs rfl ?_|refine Zc rfl ?_)
 by_cases h3:65536<vl
 ·rw [decide_eq_true (show (65536:Int)<(vl:Int) by omega)]
  have e:b0E ver seq off b kd kl vl ex=none:=if_pos (.inl h3)
  rw [e]
  repeat' (first|refine Zs rfl ?_|refine Zc rfl ?_|refine Zh ?_|refine Qs ?_)
  exact a0c ⟨_,rfl,rfl⟩
 rw [decide_eq_false (show ¬ (65536:Int)<(vl:Int) by omega)]
 repeat' (first|refine Zs rfl ?_|refine Zh ?_|refine Qs ?_)
 rw [w1,w2]
 by_cases h4:b.length<16+kl+vl
 ·rw [decide_eq_true (show ((b.map u8A).length:Int)<((16+kl+vl:Nat):Int) by omega)]
  have e:b0E ver seq off b kd kl vl ex=none:=if_pos (.inr h4)
  rw [e]
  repeat' (first|refine Zs rfl ?_|refine Zc rfl ?_|refine Zh ?_|refine Qs ?_)
  exact a0c ⟨_,rfl,rfl⟩
 rw [decide_eq_false (show ¬ ((b.map u8A).length:Int)<((16+kl+vl:Nat):Int) by omega)]
 have e:b0E ver seq off b kd kl vl ex=if a3U ver ⟨(kd:Int),(b.drop 16).take kl,(b.drop (16+kl)).take vl,(ex:Int)⟩=0/\a2d ver seq off ⟨(kd:Int),(b.drop 16).take kl,(b.drop (16+kl)).take vl,(ex:Int)⟩=b.take (16+kl+vl)
  then some ⟨(kd:Int),(b.drop 16).take kl,(b.drop (16+kl)).take vl,(ex:Int)⟩ else none:=if_neg (by omega)
 rw [e]
 clear e
 have hk1:((b.drop 16).take kl).length=kl:=by simp;omega
 have hv1:((b.drop (16+kl)).take vl).length=vl:=by simp;omega
 have ck:=fun X=>(a0b.froz 1 (a4T X ((b.drop 16).take kl) (by omega)) (List.length_map _).symm rfl rfl a0T (a0h fun _=>a0n):a0b (E0 X) 45 [.sl 1 (((b.drop 16).take kl).map u8A)] [] (fun r H'=>r=.sl 1 (((b.drop 16).take kl).map u8A)/\H'=[]))
 have cv:=fun X=>(a0b.froz 1 (a4T X ((b.drop (16+kl)).take vl) (by omega)) (List.length_map _).symm rfl rfl a0T (a0h fun _=>a0n):a0b (E0 X) 45 [.sl 1 (((b.drop (16+kl)).take vl).map u8A)] [] (fun r H'=>r=.sl 1 (((b.drop (16+kl)).take vl).map u8A)/\H'=[]))
 repeat' (first|refine Zs rfl ?_|refine Zc rfl ?_)
 refine a0o [12,14] [0,1,2,3,4,5,6,7,8,9,10,11,13] (by exact rfl) ?_
 refine a0C (fuel:=0) [0,1,2,3,4,5,6,7,8,9,10,11,12,13,14] (by exact rfl) (by kernel_rfl) (by kernel_rfl) ?_
 repeat' ((apply Qe rfl rfl rfl rfl;intro H9);(first|refine Q0 ?_|refine Q2 rfl ?_);(exact QY rfl ⟨rfl,rfl⟩))
 rw [w1,w2]
 apply a0Q rfl rfl rfl rfl
 ·intro H9
  refine a1m (l:=16) (h:=16+kl) (ys:=(b.drop 16).take kl) (a0r rfl rfl) (a0r rfl rfl) (by omega) (by omega) (by rw [List.drop_take];congr 1;omega) rfl rfl rfl rfl rfl ?_
  exact nx0 ⟨rfl,rfl⟩
 have hlen:a1K ⟨(kd:Int),(b.drop 16).take kl,(b.drop (16+kl)).take vl,(ex:Int)⟩=16+kl+vl:=by simp only [a1K,hk1,hv1]
 generalize (b.drop 16).take kl=key at *
 skip
 apply a0Q rfl rfl rfl rfl
 ·intro H9
  refine Ck (fun _=>rfl) rfl (a0f (E:=E0 X) (fun X=>ck X) (by simp [a0e,a0g]) _) ?_
  exact nxs rfl ⟨rfl,rfl⟩
 repeat' ((apply Qe rfl rfl rfl rfl;intro H9);(first|refine Q0 ?_|refine Q2 rfl ?_);(exact QY rfl ⟨rfl,rfl⟩))
 rw [w1]
 apply a0Q rfl rfl rfl rfl
 ·intro H9
  refine a1m (l:=16+kl) (h:=16+kl+vl) (ys:=(b.drop (16+kl)).take vl) (a0r rfl rfl) (a0r rfl rfl) (by omega) (by omega) (by rw [List.drop_take];congr 1;omega) rfl rfl rfl rfl rfl ?_
  exact nx0 ⟨rfl,rfl⟩
 generalize (b.drop (16+kl)).take vl=val at *
 skip
 apply a0Q rfl rfl rfl rfl
 ·intro H9
  refine Ck (fun _=>rfl) rfl (a0f (E:=E0 X) (fun X=>cv X) (by simp [a0e,a0g]) _) ?_
  exact nxs rfl ⟨rfl,rfl⟩
 repeat' (first|((apply Qe rfl rfl rfl rfl;intro H9);(refine Q4 rfl rfl rfl rfl rfl ?_);(exact QY rfl ⟨rfl,rfl⟩))|(refine Qf rfl rfl rfl ?_;refine QS rfl rfl rfl rfl rfl rfl rfl ?_;(refine QX rfl rfl ?_))|refine Qk ?_|refine Qw (by kernel_rfl) ?_)
 by_cases hc:a3U ver ⟨(kd:Int),key,val,(ex:Int)⟩=0
 ·have hen:=fun X=>c7k X ver seq off ⟨(kd:Int),key,val,(ex:Int)⟩ hc hs ho
  generalize a2d ver seq off ⟨(kd:Int),key,val,(ex:Int)⟩=eb at *
  repeat' (first|refine Zs rfl ?_|refine Zc rfl ?_|refine Qa rfl ?_)
  refine Cn rfl (a0f (E:=E0 X) (fun X=>hen X) (by simp [a0e,a0g]) _) rfl rfl ?_
  repeat' (first|refine Zs rfl ?_|refine Zc rfl ?_|refine Qa rfl ?_)
  refine a1m (l:=0) (h:=16+kl+vl) (ys:=b.take (16+kl+vl)) (a1t) (a0r rfl rfl) (by omega) (by omega) (rfl) rfl rfl rfl rfl rfl ?_
  refine nx rfl rfl ?_
  generalize b.take (16+kl+vl)=bt at *
  repeat' (refine Qa rfl ?_)
  refine Cn rfl (a0f (E:=E0 X) (fun X=>b5X X eb bt) (by simp [a0e,a0g]) _) rfl rfl ?_
  repeat' (first|refine Zs rfl ?_|refine Zh ?_|refine Qs ?_)
  refine a0H rfl (fun h9=>?_) (fun h9=>?_)
  ·have h8:¬ eb=bt:=by simpa using h9
   rw [if_neg (fun h=>h8 h.2)]
   repeat' (first|refine Zs rfl ?_|refine Zc rfl ?_|refine Zh ?_|refine Qs ?_)
   exact a0c ⟨_,rfl,rfl⟩
  have h8:eb=bt:=by simpa using h9
  rw [if_pos ⟨hc,h8⟩]
  repeat' (first|refine Zs rfl ?_|refine Zc rfl ?_|refine Zh ?_|refine Qs ?_)
  refine a0c ⟨_,rfl,?_⟩
  show _=AV.tup [a6Z _,.int .i64 (a1K _:Int),.bool true]
  rw [hlen]
  rfl
 have hen:=fun X=>b8c X ver seq off ⟨(kd:Int),key,val,(ex:Int)⟩ hc
 rw [if_neg (fun h=>hc h.1)]
 generalize a3U ver ⟨(kd:Int),key,val,(ex:Int)⟩=e at *
 repeat' (first|refine Zs rfl ?_|refine Zc rfl ?_|refine Qa rfl ?_)
 refine Cn rfl (a0f (E:=E0 X) (fun X=>hen X) (by simp [a0e,a0g]) _) rfl rfl ?_
 repeat' (first|refine Zs rfl ?_|refine Zc rfl ?_)
 rw [decide_eq_true hc]
 repeat' (first|refine Zs rfl ?_|refine Zc rfl ?_|refine Zh ?_|refine Qs ?_)
 exact a0c ⟨_,rfl,rfl⟩
theorem c9s{n:Nat}(h:n<=16777215):a0I [a0j n 16,a0j n 8,a0j n 0]=n:=by
 simp only [a0I,List.foldl_cons,List.foldl_nil,a3H]
 have e2:(2:Nat) ^ 16=65536:=by decide
 have e3:(2:Nat) ^ 8=256:=by decide
 rw [e2,e3]
 omega
def c3y(k kl vl e s:Nat)(z:List UInt8):List UInt8:=UInt8.ofNat (161%256)::UInt8.ofNat (k%256)::UInt8.ofNat (kl%256)::UInt8.ofNat (0%256) ::
 a0j vl 24::a0j vl 16::a0j vl 8::a0j vl 0::a0j e 24::a0j e 16::a0j e 8::a0j e 0::a0j s 24::a0j s 16::a0j s 8::a0j s 0::z
def c3z(k kl vl e s:Nat)(z:List UInt8):List UInt8:=UInt8.ofNat (162%256)::UInt8.ofNat (kl%256)::UInt8.ofNat (16*k%256) ::
 a0j vl 16::a0j vl 8::a0j vl 0::0::a0j e 32::a0j e 24::a0j e 16::a0j e 8::a0j e 0::a0j s 24::a0j s 16::a0j s 8::a0j s 0::z
theorem b6w(k kl vl e s:Nat)(z:List UInt8):a1b (a9K 1 k kl vl e) s 4++z=c3y k kl vl e s z:=by
 rw [<- c6q];rfl
theorem b6x{ver:Int}(h:¬ ver=1)(k kl vl e s:Nat)(z:List UInt8):a1b (a9K ver k kl vl e) s 4++z=c3z k kl vl e s z:=by
 rw [<- c6r h];rfl
theorem b6o{ver:Int}{seq off:Nat}{r:Rec}(h:a3U ver r=0)(more:List UInt8) :
  b0E ver seq off (a2d ver seq off r++more) r.kind.toNat r.key.length r.val.length r.exp.toNat=some r:=by
 have hok:=a8u h
 have hl:=a2E ver seq off r
 have hhl:(a1b (a3x ver r) (c5t ver seq off r) 4).length=16:=by rw [a0E,a3x,a5X]
 have e0:a2d ver seq off r++more=a1b (a3x ver r) (c5t ver seq off r) 4++(r.key++(r.val++more)):=by simp [a2d]
 have e1:((a2d ver seq off r++more).drop 16).take r.key.length=r.key:=by
  rw [e0,List.drop_left' hhl,List.take_left' rfl]
 have e2:((a2d ver seq off r++more).drop (16+r.key.length)).take r.val.length=r.val:=by
  rw [e0,<- List.drop_drop,List.drop_left' hhl,List.drop_left' rfl,List.take_left' rfl]
 have e3:(a2d ver seq off r++more).take (16+r.key.length+r.val.length)=a2d ver seq off r:=List.take_left' (by rw [hl];rfl)
 have hr:(⟨(r.kind.toNat:Int),r.key,r.val,(r.exp.toNat:Int)⟩:Rec)=r:=by
  obtain ⟨kind,key,val,exp⟩:=r
  have:=hok.kind
  have:=hok.exp
  simp only at *
  simp only [Rec.mk.injEq,true_and]
  omega
 unfold b0E
 rw [if_neg (by
  have:=hok.val
  have h2:(a2d ver seq off r++more).length=a1K r+more.length:=by rw [List.length_append,hl]
  rw [h2]
  simp only [a1K]
  omega),e1,e2,e3,hr,if_pos ⟨h,rfl⟩]
theorem b6q{ver:Int}{seq off:Nat}{r:Rec}(h:a3U ver r=0)(more:List UInt8):a6P ver seq off (a2d ver seq off r++more)=some r:=by
 have hok:=a8u h
 have hl:=a2E ver seq off r
 have hla:b9A ver<=1099511627775:=b2p ver
 have hk:=hok.kind
 have hkl:=hok.keyle
 have hvl:=hok.val
 have he:=hok.exp
 have hg:=b6o (seq:=seq) (off:=off) h more
 unfold a6P
 rw [if_neg (by rw [List.length_append,hl];simp only [a1K];omega)]
 split
 ·rename_i h1
  have hlat:b9A ver=4294967295:=by unfold b9A;rw [if_pos h1]
  have e:a2d ver seq off r++more=c3y r.kind.toNat r.key.length r.val.length r.exp.toNat (c5t ver seq off r) (r.key++r.val++more):=by
   rw [<- b6w,<- h1];simp [a2d,a3x]
  have n1:a0I (((a2d ver seq off r++more).drop 1).take 1)=r.kind.toNat:=by rw [e];exact b1P (by omega)
  have n2:a0I (((a2d ver seq off r++more).drop 2).take 1)=r.key.length:=by rw [e];exact b1P (by omega)
  have n3:a0I (((a2d ver seq off r++more).drop 4).take 4)=r.val.length:=by rw [e];exact b9C (by omega)
  have n4:a0I (((a2d ver seq off r++more).drop 8).take 4)=r.exp.toNat:=by rw [e];exact b9C (by omega)
  rw [n1,n2,n3,n4]
  exact hg
 rename_i h1
 have e:a2d ver seq off r++more=c3z r.kind.toNat r.key.length r.val.length r.exp.toNat (c5t ver seq off r) (r.key++r.val++more):=by
  rw [<- b6x h1];simp [a2d,a3x]
 have n1:a0I (((a2d ver seq off r++more).drop 2).take 1) / 16=r.kind.toNat:=by
  have:a0I (((a2d ver seq off r++more).drop 2).take 1)=16*r.kind.toNat:=by rw [e];exact b1P (by omega)
  omega
 have n2:a0I (((a2d ver seq off r++more).drop 1).take 1)=r.key.length:=by rw [e];exact b1P (by omega)
 have n3:a0I (((a2d ver seq off r++more).drop 3).take 3)=r.val.length:=by rw [e];exact c9s (by omega)
 have n4:a0I (((a2d ver seq off r++more).drop 7).take 5)=r.exp.toNat:=by rw [e];exact c6S (by omega)
 rw [n1,n2,n3,n4]
 exact hg
def a3F(ver:Int)(seq:Nat)(b:List UInt8):Nat->Nat->List (Nat × Rec)
 | 0,_=>[]
 | n+1,off=>if b.length<=off then [] else if b[off]?=some 0 then a3F ver seq b n ((off / 59+1)*59) else match a6P ver seq off (b.drop off) with
  | none=>[]
  | some r=>(off,r)::a3F ver seq b n (off+a1K r)
def c1j(ver:Int)(seq:Nat)(b:List UInt8):List (Nat × Rec):=a3F ver seq b b.length 0
def foA(p:Nat × Rec):AV:=.agg (.int .i64 (p.1:Int)::.int .i64 (a1K p.2:Int)::c7i p.2)
@[simp] theorem a2j{n:Nat}{p:Nat × Rec}:a0g n (foA p):=⟨trivial,trivial,a2F⟩
theorem b7y{b:List UInt8}{i:Nat}{x:UInt8}(h:b[i]?=some x):a0I ((b.drop i).take 1)=x.toNat:=by
 rw [List.drop_eq_getElem?_toList_append,h]
 simp [a0I]
theorem c2v(a c:Int):HOk 2 [some zR,some (.cells [.int .i64 a,.nils,.nils,.int .i64 c] 72)]:=fun j o ho=>by
 match j,ho with
 | 0,ho=>cases ho;exact ⟨trivial,trivial,trivial,trivial,trivial⟩
 | 1,ho=>cases ho;exact ⟨trivial,trivial,trivial,trivial,trivial⟩
theorem c6y(a c:Int)(key val:List UInt8):HOk 2 [some zR,some (.cells [.int .i64 a,.sl 1 (key.map u8A),.sl 1 (val.map u8A),.int .i64 c] 72)]:=fun j o ho=>by
 match j,ho with
 | 0,ho=>cases ho;exact ⟨trivial,trivial,trivial,trivial,trivial⟩
 | 1,ho=>cases ho;exact ⟨trivial,a0h fun _=>a0n,a0h fun _=>a0n,trivial,trivial⟩
theorem b9T{E:Env}{N n0:Nat}{Q Q2:Exit->St->Prop}{s:St}{c c2:Code}{ι:Type}(σ:ι->St)(I:ι->Prop)(h1:AWp E N n0 c (fun e s'=>e=.normal/\∃i,I i/\Imp E N n0 s' (σ i)) s)(h2:∀i,I i->AWp E N n0 c2 Q2 (σ i)):AWp E N n0 c (a8M (AWp E N n0 c2 Q2) Q) s :=
 a3y h1 fun e s' ⟨he,i,hi,im⟩=>by subst he;exact a0t im (h2 i hi)
theorem b8q(X:Nat->Prop)(v:Int)(hv:v=1\/v=2)(seq off:Nat)(b:List UInt8)(hs:seq<9223372036854775808)(ho:off<=2147483647)(hb:b.length<=1000000) :
  a0b (E0 X) 25 [.int .i64 v,.int .i64 (seq:Int),.int .i64 (off:Int),.sl 1 (b.map u8A)] [] (fun r H'=>r=c8q (a6P v seq off b)/\H'=[]):=by
 refine a0b.cut0 ?_ (b4i _)
 have hbm:(b.map u8A).length=b.length:=List.length_map _
 refine Z0 Proofs.Tryz.func25 rfl Proofs.Tryz.ntmps25 (by kernel_rfl) rfl ?_
 repeat' (first|refine Zb rfl rfl ?_|refine Zs rfl ?_|refine Zc rfl ?_)
 refine a0H rfl (fun h1=>?_) (fun h1=>?_)
 ·have e:a6P v seq off b=none:=if_pos (by grind)
  rw [e]
  repeat' (first|refine Zs rfl ?_|refine Zc rfl ?_|refine Zh ?_|refine Qs ?_)
  exact a0c ⟨_,rfl,rfl⟩
 have h1:¬ b.length<16:=by grind
 obtain ⟨x1,hx1⟩:∃x,b[1]?=some x:=⟨_,List.getElem?_eq_getElem (by omega)⟩
 obtain ⟨x2,hx2⟩:∃x,b[2]?=some x:=⟨_,List.getElem?_eq_getElem (by omega)⟩
 have g1:=b7y hx1
 have g2:=b7y hx2
 have l1:=x1.toNat_lt
 have l2:=x2.toNat_lt
 have wx1:IntKind.i64.wrap (x1.toNat:Int)=(x1.toNat:Int):=a0p (by omega) (by omega)
 have wx2:IntKind.i64.wrap (x2.toNat:Int)=(x2.toNat:Int):=a0p (by omega) (by omega)
 have q8:=fun X=>a3r X ((b.drop 8).take 4) (by simp;omega)
 have q4:=fun X=>a3r X ((b.drop 4).take 4) (by simp;omega)
 have q7:=fun X=>a3r X ((b.drop 7).take 5) (by simp;omega)
 have q3:=fun X=>a3r X ((b.drop 3).take 3) (by simp;omega)
 have s8:=a0Z (bs:=b) (lo:=8) (w:=4) (by decide)
 have s4:=a0Z (bs:=b) (lo:=4) (w:=4) (by decide)
 have s7:=a0Z (bs:=b) (lo:=7) (w:=5) (by decide)
 have s3:=a0Z (bs:=b) (lo:=3) (w:=3) (by decide)
 have hdec:a6P v seq off b=if v=1 then b0E v seq off b x1.toNat x2.toNat (a0I ((b.drop 4).take 4)) (a0I ((b.drop 8).take 4)) else b0E v seq off b (x2.toNat / 16) x1.toNat (a0I ((b.drop 3).take 3)) (a0I ((b.drop 7).take 5)):=by
  unfold a6P;rw [if_neg h1,g1,g2]
 rw [hdec]
 clear hdec
 repeat' (refine Zc rfl ?_)
 refine a0o [9,10] [0,1,2,3,4,5,6,7,8] (by exact rfl) ?_
 refine a0C (fuel:=0) [0,1,2,3,4,5,6,7,8,9,10] (by exact rfl) (by kernel_rfl) (by kernel_rfl) ?_
 repeat' ((apply Qe rfl rfl rfl rfl;intro H9);(refine Q0 ?_);(exact QY rfl ⟨rfl,rfl⟩))
 apply a0Q rfl rfl rfl rfl
 ·intro H9
  refine a0y hx1 rfl rfl rfl rfl rfl rfl rfl (by first|rfl|omega) rfl ?_
  exact nxs rfl ⟨rfl,rfl⟩
 repeat' ((apply Qe rfl rfl rfl rfl;intro H9);(first|refine Q0 ?_|refine Q3 rfl rfl rfl ?_|refine QG rfl rfl rfl rfl ?_);(exact QY rfl ⟨rfl,rfl⟩))
 apply a0Q rfl rfl rfl rfl
 ·intro H9
  refine a1m (l:=8) (h:=12) (ys:=(b.drop 8).take 4) (a0r rfl rfl) (a0r rfl rfl) (by omega) (by omega) (by rw [List.drop_take]) rfl rfl rfl rfl rfl ?_
  exact nx0 ⟨rfl,rfl⟩
 generalize (b.drop 8).take 4=b8 at *
 skip
 apply a0Q rfl rfl rfl rfl
 ·intro H9
  refine Ck (fun _=>rfl) rfl (a0f (E:=E0 X) (fun X=>q8 X) (by simp [a0e,a0g]) _) ?_
  exact nxs rfl ⟨rfl,rfl⟩
 repeat' (first|((first|refine Qc rfl rfl rfl ?_|(apply Qe rfl rfl rfl rfl;intro H9));(first|refine QG rfl rfl rfl rfl ?_|refine QJ rfl rfl ?_|refine QP rfl rfl rfl rfl rfl rfl ?_);(first|exact QY rfl ⟨rfl,rfl⟩|refine QX rfl rfl ?_))|(refine Qf rfl rfl rfl ?_;refine QS rfl rfl rfl rfl rfl rfl rfl ?_;(refine QX rfl rfl ?_))|refine Qk ?_|refine Qw (by kernel_rfl) ?_)
 rw [wx1,a3w s8]
 repeat' (refine Zc rfl ?_)
 refine a0m [] [] (by exact rfl) (by kernel_rfl) ?_
 repeat' (refine Zd rfl ?_)
 apply ds rfl rfl rfl rfl
 ·refine a0y hx2 rfl rfl rfl rfl rfl rfl rfl (by first|rfl|omega) rfl ?_
  exact nx rfl rfl ⟨rfl,rfl⟩
 repeat' (refine Zd rfl ?_)
 apply ds rfl rfl rfl rfl
 ·refine a1m (l:=4) (h:=8) (ys:=(b.drop 4).take 4) (a0r rfl rfl) (a0r rfl rfl) (by omega) (by omega) (by rw [List.drop_take]) rfl rfl rfl rfl rfl ?_
  exact nx rfl rfl ⟨rfl,rfl⟩
 generalize (b.drop 4).take 4=b4 at *
 skip
 apply ds rfl rfl rfl rfl
 ·refine Ck (fun _=>rfl) rfl (a0f (E:=E0 X) (fun X=>q4 X) (by simp [a0e,a0g]) _) ?_
  exact nx rfl rfl ⟨rfl,rfl⟩
 repeat' (first|refine Zs rfl ?_|refine Zd rfl ?_|refine Zc rfl ?_|refine Zh ?_|refine Qs ?_)
 rw [wx2,a3w s4]
 skip
 refine b9T (fun p:Nat × Nat × Nat × Nat=>⟨[(0,.int .i64 v),(1,.int .i64 (seq:Int)),(2,.int .i64 (off:Int)),(3,.sl 1 (b.map u8A)),(8,.ptr 0 0),(11,.ptr 1 0),(12,.int .i64 (p.2.1:Int)),(13,.int .i64 (p.2.2.1:Int))],[some zR,some (.cells [.int .i64 (p.1:Int),.nils,.nils,.int .i64 (p.2.2.2:Int)] 72)]⟩) (fun p=>p.2.1<=255/\p.2.2.1<=281474976710655/\(if v=1 then b0E v seq off b x1.toNat x2.toNat (a0I b4) (a0I b8) else b0E v seq off b (x2.toNat / 16) x1.toNat (a0I ((b.drop 3).take 3)) (a0I ((b.drop 7).take 5)))=b0E v seq off b p.1 p.2.1 p.2.2.1 p.2.2.2) ?_ ?_
 ·refine a0d rfl (fun h5=>?_) (fun h5=>?_)
  ·have h6:¬ v=1:=by omega
   rw [if_neg h6]
   repeat' (refine Zc rfl ?_)
   refine a0o [10] [0,1,2,3,4,5,6,7,8,9] (by exact rfl) ?_
   refine a0C (fuel:=0) [0,1,2,3,4,5,6,7,8,9,10] (by exact rfl) (by kernel_rfl) (by kernel_rfl) ?_
   repeat' ((apply Qe rfl rfl rfl rfl;intro H9);(refine Q0 ?_);(exact QY rfl ⟨rfl,rfl⟩))
   apply a0Q rfl rfl rfl rfl
   ·intro H9
    refine a0y hx2 rfl rfl rfl rfl rfl rfl rfl (by first|rfl|omega) rfl ?_
    exact nxs rfl ⟨rfl,rfl⟩
   repeat' ((apply Qe rfl rfl rfl rfl;intro H9);(first|refine Q0 ?_|refine Q3 rfl rfl rfl ?_|refine QA rfl rfl (by decide) ?_|refine QG rfl rfl rfl rfl ?_);(exact QY rfl ⟨rfl,rfl⟩))
   apply a0Q rfl rfl rfl rfl
   ·intro H9
    refine a1m (l:=7) (h:=12) (ys:=(b.drop 7).take 5) (a0r rfl rfl) (a0r rfl rfl) (by omega) (by omega) (by rw [List.drop_take]) rfl rfl rfl rfl rfl ?_
    exact nx0 ⟨rfl,rfl⟩
   generalize (b.drop 7).take 5=b7 at *
   skip
   apply a0Q rfl rfl rfl rfl
   ·intro H9
    refine Ck (fun _=>rfl) rfl (a0f (E:=E0 X) (fun X=>q7 X) (by simp [a0e,a0g]) _) ?_
    exact nxs rfl ⟨rfl,rfl⟩
   repeat' (first|((apply Qe rfl rfl rfl rfl;intro H9);(first|refine QG rfl rfl rfl rfl ?_|refine QP rfl rfl rfl rfl rfl rfl ?_);(exact QY rfl ⟨rfl,rfl⟩))|(refine Qf rfl rfl rfl ?_;refine QS rfl rfl rfl rfl rfl rfl rfl ?_;(refine QX rfl rfl ?_))|refine Qk ?_|refine Qw (by kernel_rfl) ?_)
   rw [wx2,a3w s7]
   have wq:IntKind.i64.wrap (Int.tdiv (x2.toNat:Int) 16)=((x2.toNat / 16:Nat):Int):=by
    rw [show Int.tdiv (x2.toNat:Int) 16=((x2.toNat / 16:Nat):Int) from rfl]
    exact a0p (by omega) (by omega)
   rw [wq]
   repeat' (refine Qs ?_)
   refine a0m [] [] (by exact rfl) (by kernel_rfl) ?_
   repeat' (refine Zd rfl ?_)
   apply ds rfl rfl rfl rfl
   ·refine a0y hx1 rfl rfl rfl rfl rfl rfl rfl (by first|rfl|omega) rfl ?_
    exact nx rfl rfl ⟨rfl,rfl⟩
   repeat' (refine Zd rfl ?_)
   apply ds rfl rfl rfl rfl
   ·refine a1m (l:=3) (h:=6) (ys:=(b.drop 3).take 3) (a0r rfl rfl) (a0r rfl rfl) (by omega) (by omega) (by rw [List.drop_take]) rfl rfl rfl rfl rfl ?_
    exact nx rfl rfl ⟨rfl,rfl⟩
   generalize (b.drop 3).take 3=b3 at *
   skip
   apply ds rfl rfl rfl rfl
   ·refine Ck (fun _=>rfl) rfl (a0f (E:=E0 X) (fun X=>q3 X) (by simp [a0e,a0g]) _) ?_
    exact nx rfl rfl ⟨rfl,rfl⟩
   repeat' (first|refine Zd rfl ?_|refine Zk ?_)
   rw [wx1,a3w s3]
   exact ⟨rfl,(x2.toNat / 16,x1.toNat,a0I b3,a0I b7),⟨by show x1.toNat<=_;omega,Nat.le_trans s3 (by decide),rfl⟩,ik 2 (c2v _ _) rfl rfl rfl rfl (by simp [a0e,a0g])⟩
  have h6:v=1:=by omega
  rw [if_pos h6]
  repeat' (refine Zc rfl ?_)
  exact ⟨rfl,(x1.toNat,x2.toNat,a0I b4,a0I b8),⟨by show x2.toNat<=_;omega,s4,rfl⟩,ik 2 (c2v _ _) rfl rfl rfl rfl (by simp [a0e,a0g])⟩
 rintro ⟨kd,kl,vl,ex⟩ ⟨hkl,hvl,he⟩
 simp only at hkl hvl he ⊢
 rw [he]
 clear he q8 q4 q7 q3 s8 s4 s7 s3
 have w1:IntKind.i64.wrap (16+(kl:Int))=((16+kl:Nat):Int):=a0u (by omega) (by omega) (by omega)
 have w2:IntKind.i64.wrap (((16+kl:Nat):Int)+(vl:Int))=((16+kl+vl:Nat):Int):=a0u (by omega) (by omega) (by omega)
 repeat' (first|refine Zs rfl ?_|refine Zc rfl ?_)
 by_cases h3:65536<vl
 ·rw [decide_eq_true (show (65536:Int)<(vl:Int) by omega)]
  have e:b0E v seq off b kd kl vl ex=none:=if_pos (.inl h3)
  rw [e]
  repeat' (first|refine Zs rfl ?_|refine Zc rfl ?_|refine Zh ?_|refine Qs ?_)
  exact a0c ⟨_,rfl,rfl⟩
 rw [decide_eq_false (show ¬ (65536:Int)<(vl:Int) by omega)]
 repeat' (first|refine Zs rfl ?_|refine Zh ?_|refine Qs ?_)
 rw [w1,w2]
 by_cases h4:b.length<16+kl+vl
 ·rw [decide_eq_true (show ((b.map u8A).length:Int)<((16+kl+vl:Nat):Int) by omega)]
  have e:b0E v seq off b kd kl vl ex=none:=if_pos (.inr h4)
  rw [e]
  repeat' (first|refine Zs rfl ?_|refine Zc rfl ?_|refine Zh ?_|refine Qs ?_)
  exact a0c ⟨_,rfl,rfl⟩
 rw [decide_eq_false (show ¬ ((b.map u8A).length:Int)<((16+kl+vl:Nat):Int) by omega)]
 have e:b0E v seq off b kd kl vl ex=if a3U v ⟨(kd:Int),(b.drop 16).take kl,(b.drop (16+kl)).take vl,(ex:Int)⟩=0/\a2d v seq off ⟨(kd:Int),(b.drop 16).take kl,(b.drop (16+kl)).take vl,(ex:Int)⟩=b.take (16+kl+vl)
  then some ⟨(kd:Int),(b.drop 16).take kl,(b.drop (16+kl)).take vl,(ex:Int)⟩ else none:=if_neg (by omega)
 rw [e]
 clear e
 have hk1:((b.drop 16).take kl).length=kl:=by simp;omega
 have hv1:((b.drop (16+kl)).take vl).length=vl:=by simp;omega
 repeat' (first|refine Zs rfl ?_|refine Zc rfl ?_|refine Qa rfl ?_)
 rw [w1]
 refine a1m (l:=16) (h:=16+kl) (ys:=(b.drop 16).take kl) (a0r rfl rfl) (a0r rfl rfl) (by omega) (by omega) (by rw [List.drop_take];congr 1;omega) rfl rfl rfl rfl rfl ?_
 refine nx rfl rfl ?_
 have hlen:a1K ⟨(kd:Int),(b.drop 16).take kl,(b.drop (16+kl)).take vl,(ex:Int)⟩=16+kl+vl:=by simp only [a1K,hk1,hv1]
 generalize (b.drop 16).take kl=key at *
 repeat' (refine Qa rfl ?_)
 refine a0V (oid:=none) (es:=[]) (out:=key.map u8A) (n:=key.length) (rfl) (rfl) (a0P _) (rfl) (by simp) (by show _<=9223372036854775807;omega) (by show _*1<=_;omega) rfl rfl rfl rfl rfl rfl rfl rfl ?_
 refine nx rfl rfl ?_
 repeat' (first|((refine Qa rfl ?_);(refine Q4 rfl rfl rfl rfl rfl ?_);(refine QX rfl rfl ?_))|(refine Qb rfl ?_;try (refine QS rfl rfl rfl rfl rfl rfl rfl ?_;(refine QX rfl rfl ?_)))|refine Qh ?_)
 refine a2s ?_
 repeat' (first|refine Zs rfl ?_|refine Zc rfl ?_|refine Qa rfl ?_)
 rw [w1,w2]
 refine a1m (l:=16+kl) (h:=16+kl+vl) (ys:=(b.drop (16+kl)).take vl) (a0r rfl rfl) (a0r rfl rfl) (by omega) (by omega) (by rw [List.drop_take];congr 1;omega) rfl rfl rfl rfl rfl ?_
 refine nx rfl rfl ?_
 generalize (b.drop (16+kl)).take vl=val at *
 repeat' (refine Qa rfl ?_)
 refine a0V (oid:=none) (es:=[]) (out:=val.map u8A) (n:=val.length) (rfl) (rfl) (a0P _) (rfl) (by simp) (by show _<=9223372036854775807;omega) (by show _*1<=_;omega) rfl rfl rfl rfl rfl rfl rfl rfl ?_
 refine nx rfl rfl ?_
 repeat' (first|((refine Qa rfl ?_);(refine Q4 rfl rfl rfl rfl rfl ?_);(refine QX rfl rfl ?_))|(refine Qb rfl ?_;try (refine QS rfl rfl rfl rfl rfl rfl rfl ?_;(refine QX rfl rfl ?_)))|refine Qh ?_)
 refine a2s ?_
 refine a0t (Imp.trans (a5z (id:=3) (k:=1) (es:=val.map u8A) (e:=5) rfl rfl rfl) (Imp.trans (a5z (id:=2) (k:=1) (es:=key.map u8A) (e:=5) rfl rfl rfl) (a0i 2 (Nat.zero_le _) (c6y kd ex key val) ?_ (by simp) (sl':=[(0,.int .i64 v),(1,.int .i64 (seq:Int)),(2,.int .i64 (off:Int)),(3,.sl 1 (b.map u8A)),(8,.ptr 0 0),(11,.ptr 1 0)]) ?_))) ?_
 ·simp [c8Z,frz,zR,List.take_of_length_le]
 ·repeat' (first|exact a0k|refine a0a ⟨?_,?_⟩ ?_)
  all_goals (try first|exact rfl|exact trivial|(simp [a0g,a0e];done))
 have hck:=fun X=>a7B X v ⟨(kd:Int),key,val,(ex:Int)⟩
 have hle:=fun X=>a8y X ⟨(kd:Int),key,val,(ex:Int)⟩ (by show key.length<=_;omega) (by show val.length<=_;omega)
 rw [hlen] at hle
 by_cases hc:a3U v ⟨(kd:Int),key,val,(ex:Int)⟩=0
 ·have hen:=fun X=>b8s X v seq off ⟨(kd:Int),key,val,(ex:Int)⟩ hc hs ho
  have hel:=a2E v seq off ⟨(kd:Int),key,val,(ex:Int)⟩
  rw [hc] at hck
  generalize a2d v seq off ⟨(kd:Int),key,val,(ex:Int)⟩=eb at *
  repeat' (first|refine Zs rfl ?_|refine Zc rfl ?_|refine Qa rfl ?_)
  refine Cn rfl (a0f (E:=E0 X) (fun X=>hle X) (by simp [a0e,a0g]) _) rfl rfl ?_
  repeat' (first|refine Zs rfl ?_|refine Zc rfl ?_)
  refine a0m [] [] (by exact rfl) (by kernel_rfl) ?_
  repeat' (refine Zd rfl ?_)
  apply ds rfl rfl rfl rfl
  ·refine Ck (fun _=>rfl) rfl (a0f (E:=E0 X) (fun X=>hck X) (by simp [a0e,a0g]) _) ?_
   exact nx rfl rfl ⟨rfl,rfl⟩
  repeat' (refine Zd rfl ?_)
  apply ds rfl rfl rfl rfl
  ·refine Ck (fun _=>rfl) rfl (a0f (E:=E0 X) (fun X=>hen X) (by simp [a0e,a0g]) _) ?_
   exact nx rfl rfl ⟨rfl,rfl⟩
  repeat' (refine Zd rfl ?_)
  apply ds rfl rfl rfl rfl
  ·refine a1m (l:=0) (h:=16+kl+vl) (ys:=b.take (16+kl+vl)) (a1t) (a0r rfl rfl) (by omega) (by omega) (rfl) rfl rfl rfl rfl rfl ?_
   exact nx rfl rfl ⟨rfl,rfl⟩
  generalize b.take (16+kl+vl)=bt at *
  skip
  apply ds rfl rfl rfl rfl
  ·refine Ck (fun _=>rfl) rfl (a0f (E:=E0 X) (fun X=>b6y X eb bt (by omega)) (by simp [a0e,a0g]) _) ?_
   exact nx rfl rfl ⟨rfl,rfl⟩
  repeat' (first|refine Zd rfl ?_|refine Zk ?_|refine Qs ?_)
  refine a0H rfl (fun h9=>?_) (fun h9=>?_)
  ·have h8:¬ eb=bt:=by simpa using h9
   rw [if_neg (fun h=>h8 h.2)]
   repeat' (first|refine Zs rfl ?_|refine Zc rfl ?_|refine Zh ?_|refine Qs ?_)
   exact a0c ⟨_,rfl,rfl⟩
  have h8:eb=bt:=by simpa using h9
  rw [if_pos ⟨hc,h8⟩]
  repeat' (first|refine Zs rfl ?_|refine Zc rfl ?_|refine Zh ?_|refine Qs ?_)
  refine a0c ⟨_,rfl,?_⟩
  show _=AV.tup [a6Z _,.int .i64 (a1K _:Int),.bool true]
  rw [hlen]
  rfl
 rw [if_neg (fun h=>hc h.1)]
 generalize a3U v ⟨(kd:Int),key,val,(ex:Int)⟩=e at *
 repeat' (first|refine Zs rfl ?_|refine Zc rfl ?_|refine Qa rfl ?_)
 refine Cn rfl (a0f (E:=E0 X) (fun X=>hle X) (by simp [a0e,a0g]) _) rfl rfl ?_
 repeat' (first|refine Zs rfl ?_|refine Zc rfl ?_)
 refine a0m [] [] (by exact rfl) (by kernel_rfl) ?_
 repeat' (refine Zd rfl ?_)
 apply ds rfl rfl rfl rfl
 ·refine Ck (fun _=>rfl) rfl (a0f (E:=E0 X) (fun X=>hck X) (by simp [a0e,a0g]) _) ?_
  exact nx rfl rfl ⟨rfl,rfl⟩
 repeat' (refine Zd rfl ?_)
 rw [decide_eq_true hc]
 repeat' (first|refine Zs rfl ?_|refine Zd rfl ?_|refine Zc rfl ?_|refine Zh ?_|refine Qs ?_)
 exact a0c ⟨_,rfl,rfl⟩
theorem b4x(v:Dv)(seq:Nat):∀n s,(b0C v seq n s).length<=59*n
 | 0,_=>by simp [b0C]
 | n+1,s=>by
  unfold b0C
  split
  ·simp
  split
  ·simp
  rename_i p hp
  have:=(a2D hp).1
  have:=b4x v seq n (s+1)
  rw [List.length_append]
  omega
theorem b3Y(l:List (Nat × Rec)):a2N (l.map foA):=fun y hy=>by
 obtain ⟨b,_,rfl⟩:=List.mem_map.1 hy;exact ⟨rfl,rfl⟩
theorem c0T{off:Nat}(h:off<=2000000):IntKind.i64.wrap ((off:Int)+IntKind.i64.wrap (59 - Int.tmod (off:Int) 59))=(((off / 59+1)*59:Nat):Int):=by
 have hr:Int.tmod (off:Int) 59=((off%59:Nat):Int):=rfl
 have hs:IntKind.i64.wrap (59 - ((off%59:Nat):Int))=((59 - off%59:Nat):Int):=a0u (by omega) (by omega) (by omega)
 rw [hr,hs]
 exact a0u (by omega) (by omega) (by omega)
theorem a2J{ver:Int}{seq:Nat}{b:List UInt8}(n:Nat){off:Nat}(h:off<b.length):a3F ver seq b (n+1) off=if b[off]?=some 0 then a3F ver seq b n ((off / 59+1)*59) else match a6P ver seq off (b.drop off) with
  | none=>[]
  | some r=>(off,r)::a3F ver seq b n (off+a1K r):=by
 have h':¬ b.length<=off:=by omega
 conv=>lhs;unfold a3F
 rw [if_neg h']
 all_goals (split<;>first|rfl|(cases a6P ver seq off (b.drop off)<;>rfl))
theorem a2q{ver:Int}{seq:Nat}{b:List UInt8}(n:Nat){off:Nat}(h:b.length<=off):a3F ver seq b n off=[]:=by
 cases n with
 | zero=>rfl
 | succ n=>exact if_pos h
theorem c2t(v:Dv)(l:List (Nat × Rec)):HOk 4 (a1c v++[some (.arr (l.map foA) 118)]):=fun j o ho=>by
 match j,ho with
 | 0,ho=>cases ho;exact ⟨by simp [a0g],by simp [a0g],trivial,trivial,trivial,trivial⟩
 | 1,ho=>cases ho;exact a0h fun _=>a0n
 | 2,ho=>cases ho;exact ⟨by rw [List.map_map];exact a0h fun _=>trivial,by rw [List.map_map];exact a0h fun p=>(a0h (f:=u8A) fun _=>a0n:a0e _ (p.2.map u8A))⟩
 | 3,ho=>cases ho;exact a0h fun _=>a2j
theorem b8T(X:Nat->Prop)(v:Dv)(hv:v.Inv)(l:La)(slot:Int)(seq:Nat)(h:a3M l slot)(hs1:1<=seq)(hs2:seq<=281474976710655) :
  a0b (E0 X) 47 [.ptr 0 0,laA l,.int .i64 slot,.int .i64 (seq:Int)] (a1c v) (fun r H'=>r=.sl 6 ((c1j l.ver seq (b0C v seq (l.rs.toNat - 1) ((74+slot*l.rs).toNat+1))).map foA)/\H'=a1c v):=by
 refine a0b.frzD (e:=118) 6 ?_ rfl rfl (a0h fun _=>a2j)
 have hcap:=fun X=>b4L X l
 have hst:=c1P X v hv l slot seq h hs1 hs2
 have hsl:=b4x v seq (l.rs.toNat - 1) ((74+slot*l.rs).toNat+1)
 have hrs:=a1M h.1
 have hbl:(b0C v seq (l.rs.toNat - 1) ((74+slot*l.rs).toNat+1)).length<=130000:=by omega
 generalize b0C v seq (l.rs.toNat - 1) ((74+slot*l.rs).toNat+1)=b at *
 clear hsl
 have hbm:(b.map u8A).length=b.length:=List.length_map _
 generalize htot:c1j l.ver seq b=tot
 show a0b (E0 X) 47 [.ptr 0 0,.agg [.int .i64 l.id,.int .i64 l.ver,.int .i64 l.rs,.int .i64 l.regs],.int .i64 slot,.int .i64 (seq:Int)] (a1c v) _
 refine Z0 Proofs.Tryz.func47 rfl Proofs.Tryz.ntmps47 (by kernel_rfl) rfl ?_
 repeat' (first|refine Zs rfl ?_|refine Zc rfl ?_)
 refine Kz 3 [0,2,3,5,8] 3 (a1N v) rfl rfl (by simp [a0g,a0e]) ?_
 refine a0m [] [] (by exact rfl) (by kernel_rfl) ?_
 repeat' (refine Zd rfl ?_)
 apply ds rfl rfl rfl rfl
 ·refine Ck (fun _=>rfl) rfl (a0f (E:=E0 X) hcap (by simp [a0e,a0g]) _) ?_
  exact nx rfl rfl ⟨rfl,rfl⟩
 skip
 apply ds rfl rfl rfl rfl
 ·refine Ck (fun _=>rfl) rfl (hst) ?_
  exact nx rfl rfl ⟨rfl,rfl⟩
 repeat' (first|refine Zs rfl ?_|refine Zd rfl ?_|refine Zc rfl ?_)
 refine a0q (fun p:Nat × Nat × List (Nat × Rec)=>⟨[(0,.ptr 0 0),(3,.int .i64 (seq:Int)),(5,.fp [.int .i64 l.id,.int .i64 l.ver,.int .i64 l.rs,.int .i64 l.regs]),(9,.sl 1 (b.map u8A)),(11,.own 3 0 p.2.2.length),(12,.int .i64 (p.2.1:Int))],a1c v++[some (.arr (p.2.2.map foA) 118)]⟩)
  (fun p=>p.2.1<=b.length+59/\p.2.2.length<=p.2.1/\b.length<=p.1+p.2.1/\p.2.2++a3F l.ver seq b p.1 p.2.1=tot) (fun p=>p.1) (b.length,0,[]) ⟨Nat.zero_le _,Nat.le_refl _,by show b.length<=b.length+0;omega,htot⟩ ?_ ?_
 ·exact Imp.trans (imp_nil 11 118 rfl) (kk 4 (c2t v []) rfl (by simp [a0g,a0e]))
 rintro ⟨n,off,out⟩ ⟨ho0,hl0,hf0,ht0⟩
 have ho:off<=b.length+59:=ho0
 have hol:out.length<=off:=hl0
 have hfu:b.length<=n+off:=hf0
 have ht:out++a3F l.ver seq b n off=tot:=ht0
 clear ho0 hl0 hf0 ht0
 show AWp _ _ _ _ _ ⟨[(0,.ptr 0 0),(3,.int .i64 (seq:Int)),(5,.fp [.int .i64 l.id,.int .i64 l.ver,.int .i64 l.rs,.int .i64 l.regs]),(9,.sl 1 (b.map u8A)),(11,.own 3 0 out.length),(12,.int .i64 (off:Int))],a1c v++[some (.arr (out.map foA) 118)]⟩
 have hpw:=c0T (off:=off) (by omega)
 repeat' (first|refine Zs rfl ?_|refine Zc rfl ?_|refine Zh ?_|refine Qs ?_)
 by_cases hlt:off<b.length
 ·rw [decide_eq_true (show (off:Int)<((b.map u8A).length:Int) by omega)]
  obtain ⟨n,rfl⟩:∃k,n=k+1:=⟨n - 1,by omega⟩
  rw [a2J n hlt] at ht
  obtain ⟨x,hx⟩:∃x,b[off]?=some x:=⟨_,List.getElem?_eq_getElem hlt⟩
  rw [hx] at ht
  repeat' (first|refine Zs rfl ?_|refine Zc rfl ?_|refine Qa rfl ?_)
  refine a0y hx rfl rfl rfl rfl rfl rfl rfl (by first|rfl|omega) rfl ?_
  refine nx rfl rfl ?_
  repeat' (first|refine Zs rfl ?_|refine Zh ?_|refine Qs ?_)
  by_cases hx0:x=0
  ·rw [if_pos (by rw [hx0])] at ht
   rw [decide_eq_true (show (x.toNat:Int)=0 by rw [hx0];rfl)]
   repeat' (first|refine Zs rfl ?_|refine Zc rfl ?_|refine Qs ?_|refine Qt ?_|refine Qv ?_)
   rw [hpw]
   refine ⟨(n,(off / 59+1)*59,out),⟨by show (off / 59+1)*59<=b.length+59;omega,by show out.length<=(off / 59+1)*59;omega,by show b.length<=n+(off / 59+1)*59;omega,ht⟩,Nat.lt_succ_self n,?_⟩
   exact kk 4 (c2t v out) rfl (by simp [a0g,a0e])
  rw [if_neg (fun e=>hx0 (Option.some.inj e))] at ht
  rw [decide_eq_false (show ¬ (x.toNat:Int)=0 from fun e=>hx0 (UInt8.toNat_inj.1 (by simpa using e)))]
  have hde:=fun X=>c7g X l.ver seq off (b.drop off) (by omega) (by omega) (by rw [List.length_drop];omega)
  have hlr:∀r,a6P l.ver seq off (b.drop off)=some r->off+a1K r<=b.length:=fun r hr=>by
   have:=(a7u hr).1
   rw [List.length_drop] at this
   omega
  repeat' (refine Zc rfl ?_)
  cases hd:a6P l.ver seq off (b.drop off) with
  | none =>
   rw [hd] at ht hde
   have ho2:out=tot:=by rw [<- ht,List.append_nil]
   have hde2:∀X,a0b (E0 X) 99 [.int .i64 l.ver,.int .i64 (seq:Int),.int .i64 (off:Int),.sl 1 ((b.drop off).map u8A)] [] (fun r H'=>r=.tup [.agg [.int .i64 0,.nils,.nils,.int .i64 0],.int .i64 0,.bool false]/\H'=[]):=hde
   refine a0o [12,13] [0,1,2,3,4,5,6,7,8,9,10,11,14,15] (by exact rfl) ?_
   refine a0C (fuel:=0) [0,1,2,3,4,5,6,7,8,9,10,11,12,13,14,15] (by exact rfl) (by kernel_rfl) (by kernel_rfl) ?_
   repeat' ((apply Qe rfl rfl rfl rfl;intro H9);(first|refine Q0 ?_|refine Q3 rfl rfl rfl ?_|refine Q4 rfl rfl rfl rfl rfl ?_);(exact QY rfl ⟨rfl,rfl⟩))
   apply a0Q rfl rfl rfl rfl
   ·intro H9
    refine a1m (l:=off) (h:=(b.map u8A).length) (ys:=b.drop off) (a0r rfl rfl) (a1t) (by omega) (by omega) (by rw [hbm,List.take_length]) rfl rfl rfl rfl rfl ?_
    exact nx0 ⟨rfl,rfl⟩
   generalize b.drop off=bo at *
   skip
   apply a0Q rfl rfl rfl rfl
   ·intro H9
    refine Ck (fun _=>rfl) rfl (a0f (E:=E0 X) (fun X=>hde2 X) (by simp [a0e,a0g]) _) ?_
    exact nxs rfl ⟨rfl,rfl⟩
   repeat' (first|((first|refine Qc rfl rfl rfl ?_|(apply Qe rfl rfl rfl rfl;intro H9));(first|refine Q0 ?_|refine Q1 ?_|refine QC rfl rfl ?_|refine QJ rfl rfl ?_);(first|exact QY rfl ⟨rfl,rfl⟩|refine QX rfl rfl ?_))|(refine Qf rfl rfl rfl ?_;refine QS rfl rfl rfl rfl rfl rfl rfl ?_;(refine QX rfl rfl ?_))|refine Qk ?_|refine Qw (by kernel_rfl) ?_)
   repeat' (first|refine Zs rfl ?_|refine Zc rfl ?_|refine Zh ?_|refine Qs ?_)
   refine a0c ⟨_,rfl,3,_,rfl,?_,Nat.le_refl _,?_,rfl⟩
   ·rw [<- ho2,List.length_map]
   ·rw [<- ho2];rfl
  | some r =>
   rw [hd] at ht hde
   have hl2:=hlr r hd
   have hl3:16<=a1K r:=by simp only [a1K];omega
   have hde2:∀X,a0b (E0 X) 99 [.int .i64 l.ver,.int .i64 (seq:Int),.int .i64 (off:Int),.sl 1 ((b.drop off).map u8A)] [] (fun q H'=>q=.tup [.agg [.int .i64 r.kind,.sl 1 (r.key.map u8A),.sl 1 (r.val.map u8A),.int .i64 r.exp],.int .i64 (a1K r:Int),.bool true]/\H'=[]):=hde
   have hwo:IntKind.i64.wrap ((off:Int)+(a1K r:Int))=((off+a1K r:Nat):Int):=a0u (by omega) (by omega) (by omega)
   have htt:(out++[(off,r)])++a3F l.ver seq b n (off+a1K r)=tot:=by rw [<- ht,List.append_assoc];rfl
   have hol2:(out++[(off,r)]).length<=off+a1K r:=by rw [List.length_append];show out.length+1<=_;omega
   have hfu2:b.length<=n+(off+a1K r):=by omega
   have hoff2:off+a1K r<=b.length+59:=by omega
   generalize hL:a1K r=L at *
   refine a0o [12,13] [0,1,2,3,4,5,6,7,8,9,10,11,14,15] (by exact rfl) ?_
   refine a0C (fuel:=0) [0,1,2,3,4,5,6,7,8,9,10,11,12,13,14,15] (by exact rfl) (by kernel_rfl) (by kernel_rfl) ?_
   repeat' ((apply Qe rfl rfl rfl rfl;intro H9);(first|refine Q0 ?_|refine Q3 rfl rfl rfl ?_|refine Q4 rfl rfl rfl rfl rfl ?_);(exact QY rfl ⟨rfl,rfl⟩))
   apply a0Q rfl rfl rfl rfl
   ·intro H9
    refine a1m (l:=off) (h:=(b.map u8A).length) (ys:=b.drop off) (a0r rfl rfl) (a1t) (by omega) (by omega) (by rw [hbm,List.take_length]) rfl rfl rfl rfl rfl ?_
    exact nx0 ⟨rfl,rfl⟩
   generalize b.drop off=bo at *
   skip
   apply a0Q rfl rfl rfl rfl
   ·intro H9
    refine Ck (fun _=>rfl) rfl (a0f (E:=E0 X) (fun X=>hde2 X) (by simp [a0e,a0g]) _) ?_
    exact nxs rfl ⟨rfl,rfl⟩
   repeat' (first|((first|refine Qc rfl rfl rfl ?_|(apply Qe rfl rfl rfl rfl;intro H9));(first|refine Q0 ?_|refine Q1 ?_|refine QC rfl rfl ?_|refine QJ rfl rfl ?_);(first|exact QY rfl ⟨rfl,rfl⟩|refine QX rfl rfl ?_))|(refine Qf rfl rfl rfl ?_;refine QS rfl rfl rfl rfl rfl rfl rfl ?_;(refine QX rfl rfl ?_))|refine Qk ?_|refine Qw (by kernel_rfl) ?_)
   repeat' (first|refine Zs rfl ?_|refine Zc rfl ?_|refine Qa rfl ?_)
   refine a0V (oid:=some 3) (es:=out.map foA) (out:=(out++[(off,r)]).map foA) (n:=out.length+1) (a0J rfl (List.length_map _).symm) (rfl) ((by have h9:=b3Y [(off,r)];simp only [List.map,foA,c7i,hL] at h9;exact h9)) (by rw [List.map_append,<- hL];rfl) (by rw [List.length_map];rfl) (by show _<=9223372036854775807;omega) (by show _*80<=_;omega) rfl rfl rfl rfl rfl rfl rfl rfl ?_
   refine nx rfl rfl ?_
   repeat' (first|refine Zs rfl ?_|refine Zc rfl ?_|refine Zh ?_|refine Qs ?_|refine Qu ?_)
   rw [hwo]
   refine ⟨(n,off+L,out++[(off,r)]),⟨hoff2,hol2,hfu2,htt⟩,Nat.lt_succ_self n,?_⟩
   refine a0L 3 [5] (H':=a1c v++[some (.arr ((out++[(off,r)]).map foA) 118)]) (os:=[.arr ((out++[(off,r)]).map foA) 118]) (Nat.le_refl _) ?_ ?_ ?_ ?_ rfl ?_ ?_ ?_
   ·simp [a1c]
   ·simp
   ·simp
   ·exact a1N v
   ·rfl
   ·refine a0a (a0s rfl (by simp [a0g])) (a0a (a0s rfl trivial) (a0a (a0s rfl ⟨trivial,trivial,trivial,trivial,trivial⟩) (a0a (a0s rfl (a0h fun _=>a0n)) (a0a ?_ (a0a (a0s rfl trivial) a0k)))))
    rw [List.length_append];exact a0D rfl
   ·exact a0v rfl (a0A 3 a1V (a0h fun _=>a2j)) a0N
 rw [decide_eq_false (show ¬ (off:Int)<((b.map u8A).length:Int) by omega)]
 rw [a2q n (by omega),List.append_nil] at ht
 repeat' (first|refine Zs rfl ?_|refine Zc rfl ?_|refine Zh ?_|refine Qs ?_)
 refine a0c ⟨_,rfl,3,_,rfl,?_,Nat.le_refl _,?_,rfl⟩
 ·rw [<- ht,List.length_map]
 ·rw [<- ht];rfl
def a5g(img:List UInt8)(seq:Nat):Nat->Nat->List UInt8
 | 0,_=>[]
 | n+1,s=>match a2M 2 seq s (a5c img (s:Int)) with
  | none=>[]
  | some p=>p++a5g img seq n (s+1)
theorem b4z(img:List UInt8)(seq:Nat):∀n s,(a5g img seq n s).length<=59*n
 | 0,_=>Nat.zero_le _
 | n+1,s=>by
  have e:a5g img seq (n+1) s=match a2M 2 seq s (a5c img (s:Int)) with
    | none=>[]
    | some p=>p++a5g img seq n (s+1):=rfl
  have h:=b4z img seq n (s+1)
  rw [e]
  cases hd:a2M 2 seq s (a5c img (s:Int)) with
  | none=>exact Nat.zero_le _
  | some p =>
   have:=(a2D hd).1
   show (p++a5g img seq n (s+1)).length<=_
   rw [List.length_append]
   omega
theorem c4Z(X:Nat->Prop)(ver:Int)(hv:ver=1\/ver=2)(seq off:Nat)(b:List UInt8)(hs:seq<9223372036854775808)(ho:off<=2147483647)(hb:b.length<=1000000) :
  a0b (E0 X) 25 [.int .i64 ver,.int .i64 (seq:Int),.int .i64 (off:Int),.sl 1 (b.map u8A)] [] (fun r H'=>r=c8q (a6P ver seq off b)/\H'=[]):=by
 rcases hv with rfl|rfl
 ·exact b8q X 1 (.inl rfl) seq off b hs ho hb
 ·exact b8q X 2 (.inr rfl) seq off b hs ho hb
theorem b4N{k s n:Nat}{b:List UInt8}(h:b.length≠64):a2M k s n b=none:=by
 unfold a2M
 rw [if_neg fun hh=>h hh.1]
theorem b1G{L:Nat}{v:Dv}(hv:Lv L v)(seq:Nat):∀n s,b0C v seq n s=a5g v.image seq n s
 | 0,_=>rfl
 | n+1,s=>by
  have ih:=b1G hv seq n (s+1)
  have e1:b0C v seq (n+1) s=if v.check (s:Int)≠0 then [] else match a2M 2 seq s ((v.image.drop (s*64)).take 64) with
    | none=>[]
    | some p=>p++b0C v seq n (s+1):=rfl
  have e2:a5g v.image seq (n+1) s=match a2M 2 seq s (a5c v.image (s:Int)) with
    | none=>[]
    | some p=>p++a5g v.image seq n (s+1):=rfl
  have h64:=hv.inv.load.1
  rw [e1,e2,a4S hv.inv,hv.dead,ih]
  simp only [Bool.false_eq_true,if_false]
  by_cases hin:s*64+64<=v.image.length
  ·rw [if_neg (show ¬ ((s:Int)<0\/((v.image.length / 64:Nat):Int)<=(s:Int)) by omega)]
   simp only [ne_eq,not_true_eq_false,if_false]
   have e3:a5c v.image (s:Int)=(v.image.drop (s*64)).take 64:=by
    unfold a5c
    rw [if_neg (by omega),Int.toNat_natCast]
   rw [e3]
  rw [if_pos (show ((s:Int)<0\/((v.image.length / 64:Nat):Int)<=(s:Int)) by omega)]
  have e3:a5c v.image (s:Int)=[]:=by
   unfold a5c
   rw [if_pos (by omega)]
  rw [if_pos (by decide),e3,b4N (by decide)]
def baA(b:Int × List (Nat × Rec)):AV:=.agg [.int .i64 b.1,.sl 6 (b.2.map foA)]
def flB(l:List (Int × List (Nat × Rec))):List FR:=l.flatMap fun b=>b.2.map fun p=>(b.1,p)
theorem a2v(l:List (Int × List (Nat × Rec))):a0e 0 (l.map baA):=a0h fun b=>⟨trivial,a0h fun _=>a2j,trivial⟩
structure RpI(t:Tb)(pre:List FR):Prop where
 ok:TOk t
 kb:KB t
 ol:t.old.length<=1048576
 look:∀k,t.look k=a8Y pre k
 tot:t.nowLen+t.oldLen<=pre.length
theorem RpI.set{t t':Tb}{pre:List FR}(h:RpI t pre){p:FR}(hk:p.2.2.key.length<=1000000)(h1:p.2.2.kind=1)(hs:c5L t p.2.2.key (c3A p) t'):RpI t' (pre++[p]) :=
 ⟨hs.ok,hs.kb hk h.kb,hs.ol h.ol,fun k=>by
  rw [hs.look,a4A,h.look]
  unfold b1F
  rw [if_pos h1]
  by_cases hkk:k=p.2.2.key
  ·rw [if_pos hkk,if_pos hkk.symm]
  ·rw [if_neg hkk,if_neg fun e=>hkk e.symm],by have:=hs.tot;have:=h.tot;rw [List.length_append];show _<=pre.length+1;omega⟩
theorem RpI.del{t t':Tb}{pre:List FR}(h:RpI t pre){p:FR}(h1:p.2.2.kind=2)(hs:c3i t p.2.2.key t'):RpI t' (pre++[p]) :=
 ⟨hs.ok,hs.kb h.kb,Nat.le_trans hs.ol h.ol,fun k=>by
  have h2:b1F (a8Y pre) p k=if p.2.2.key=k then none else a8Y pre k:=by
   unfold b1F
   rw [if_neg (by rw [h1];decide),if_pos h1]
  rw [hs.look,a4A,h.look,h2]
  by_cases hkk:k=p.2.2.key
  ·rw [if_pos hkk,if_pos hkk.symm]
  ·rw [if_neg hkk,if_neg fun e=>hkk e.symm],by have:=hs.tot;have:=h.tot;rw [List.length_append];show _<=pre.length+1;omega⟩
theorem RpI.keep{t:Tb}{pre:List FR}(h:RpI t pre){p:FR}(h1:p.2.2.kind≠1)(h2:p.2.2.kind≠2)(h3:p.2.2.kind≠3):RpI t (pre++[p]) :=
 ⟨h.ok,h.kb,h.ol,fun k=>by rw [a4A,h.look];unfold b1F;rw [if_neg h1,if_neg h2,if_neg h3],by have:=h.tot;rw [List.length_append];omega⟩
theorem b3f:TOk Tb.new/\(∀k,Tb.new.look k=none):=by
 have hrep:∀(i:Nat) (x:Pc),(List.replicate 8 Pc.empty)[i]?=some x->x=.empty:=fun i x hx=>(List.mem_replicate.1 (List.mem_of_getElem? hx)).2
 have hno:∀k e,Pc.used k e ∉ List.replicate 8 Pc.empty:=fun k e h=>by cases (List.mem_replicate.1 h).2
 have hl:∀k,Abs.look (List.replicate 8 Pc.empty) k=none:=fun k=>by
  rw [a1W]
  intro i e hi
  cases hrep i _ hi
 refine ⟨⟨⟨Nat.le_refl 3,rfl,⟨fun i j k e e' hi=>?_,fun i k e hi=>?_⟩,fun i hi=>?_,rfl,rfl,fun h=>absurd h (Nat.lt_irrefl 0),fun i k e hi=>?_,fun k e hk=>?_,?_⟩,?_⟩,fun k=>?_⟩
 ·cases hrep _ _ hi
 ·cases hrep _ _ hi
 ·cases hrep _ _ hi
 ·simp [Tb.new] at hi
 ·have hk2:Abs.look (List.replicate 8 Pc.empty) k=some e:=hk
  rw [hl] at hk2;cases hk2
 ·decide
 ·decide
 unfold Tb.look
 rw [show Abs.look Tb.new.now k=none from hl k]
 rfl
theorem RpI.new(pre:List FR)(h:∀k,a8Y pre k=none):RpI Tb.new pre :=
 ⟨b3f.1,fun k e hk=>(by rw [b3f.2] at hk;cases hk),(by decide:(0:Nat)<=1048576),fun k=>(b3f.2 k).trans (h k).symm,Nat.zero_le _⟩
theorem RpI.flush{pre:List FR}{p:FR}(h1:p.2.2.kind=3):RpI Tb.new (pre++[p]):=RpI.new _ fun k=>by
 rw [a4A]
 unfold b1F
 rw [if_neg (by rw [h1];decide),if_neg (by rw [h1];decide),if_pos h1]
theorem c7R(X:Nat->Prop)(H:Hp):a0b (E0 X) 119 [] H (fun r H'=>r=.ptr H.length 0 /\
  H'=H++[some (tbC Tb.new (H.length+1) (H.length+2)),some (.arr (Tb.new.now.map pcA) 251),some (.arr (Tb.new.old.map pcA) 251)]):=by
 refine (a1H (E:=E0 X) (fun X=>c3a X) (fun r h' h=>by obtain ⟨rfl,rfl⟩:=h;exact ⟨rfl,rfl⟩) .nil).mono ?_
 rintro r H' ⟨r0,h',⟨rfl,rfl⟩,rfl,rfl⟩
 exact ⟨by simp [rnA],by simp [-List.map_map,a1U,tbH,tbC,rnO,rnL,rnA,a5m,Nat.add_comm]⟩
theorem b9e{E:Env}{N:Nat}{sl sl':List (Nat × AV)}{t:Tb}(hsl:∀p∈sl',Ren (gcF 0 [0,3,4]) (get sl p.1) p.2):Imp E N 0 ⟨sl,tbO t⟩ ⟨sl',tbH t⟩:=by
 refine a0L 0 [0,3,4] (H':=tbH t) (os:=[tbC t 1 2,.arr (t.now.map pcA) 251,.arr (t.old.map pcA) 251]) (Nat.le_refl _) (Nat.zero_le _) (by simp) (by simp) a0T rfl rfl hsl ?_
 refine a0v rfl (a1j ?_) (a0v rfl (a3q _ _) (a0v rfl (a3q _ _) a0N))
 repeat' (first|exact a3b.nil|refine a3b.cons ?_ ?_|exact a0D rfl|exact a0s rfl (by first|trivial|(simp [a0g,a0e];done)))
theorem b6A(e now:Int)(X:Nat->Prop):Pur (E0 X) 123 [.int .i64 e,.int .i64 now] (.bool (decide (e≠0)&&decide (e<=now))):=by
 refine Zj (r:=.bool (decide (e≠0)&&decide (e<=now))) (by simp [a0e,a0g]) trivial (fun X=>?_) X
 refine Z0 Proofs.Tryz.func123 rfl Proofs.Tryz.ntmps123 (by kernel_rfl) rfl ?_
 repeat' (first|refine Zs rfl ?_|refine Zc rfl ?_)
 refine Qy rfl rfl (fun h1=>?_) (fun h1=>?_)
 ·repeat' (refine Zs rfl ?_)
  refine a0c ⟨_,rfl,?_⟩
  show AV.bool _=_
  simp [h1]
 repeat' (refine Zs rfl ?_)
 refine a0c ⟨_,rfl,?_⟩
 show AV.bool _=_
 simp [h1]
end Go.Abs
