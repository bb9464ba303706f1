/- The reference's crc, bit by bit, is the program's. Joined texts, each with what its own name promises; no condition beyond those stated. -/
import Derived.Test.YtkmmdlicifiknaaGreatDoorWE
import Derived.Test.YtkmmdlicifiknaaGreatDoorWC
import Derived.Test.YtkmmdlicifiknaaGreatDoorWB
set_option maxHeartbeats 0
set_option maxRecDepth 100000
set_option linter.unusedVariables false
set_option linter.unusedSimpArgs false
namespace Go.Abs
def c0g:Nat:=2197175160
def b9x(c:Nat):Nat:=(c >>> 1) ^^^ (if c &&& 1=1 then c0g else 0)
theorem c8h(c:Nat):c &&& 1=c%2:=Nat.and_one_is_mod c
theorem c2c(a b:Nat):(a ^^^ b)%2=(a%2+b%2)%2:=by
 have h:∀n:Nat,n%2=if n.testBit 0 then 1 else 0:=fun n=>by
  rw [Nat.testBit_zero]
  by_cases h:n%2=1
  ·simp [h]
  ·have:n%2=0:=by omega
   simp [this]
 rw [h (a ^^^ b),h a,h b,Nat.testBit_xor]
 cases a.testBit 0<;>cases b.testBit 0<;>rfl
theorem b9X(a b:Nat):b9x (a ^^^ b)=b9x a ^^^ b9x b:=by
 unfold b9x
 rw [c8h,c8h,c8h,c2c,Nat.shiftRight_xor_distrib]
 rcases Nat.mod_two_eq_zero_or_one a with ha|ha<;>rcases Nat.mod_two_eq_zero_or_one b with hb|hb<;>rw [ha,hb]
 ·simp
 ·simp [Nat.xor_assoc]
 ·simp
  rw [Nat.xor_assoc,Nat.xor_comm (b >>> 1),<- Nat.xor_assoc]
 simp
 have:∀x y:Nat,x ^^^ c0g ^^^ (y ^^^ c0g)=x ^^^ y:=fun x y=>by
  rw [Nat.xor_comm y,Nat.xor_assoc,<- Nat.xor_assoc c0g,Nat.xor_self,Nat.zero_xor]
 rw [this]
def a8V:Nat->Nat->Nat
 | 0,c=>c
 | n+1,c=>a8V n (b9x c)
theorem b3p:∀(n a b:Nat),a8V n (a ^^^ b)=a8V n a ^^^ a8V n b
 | 0,_,_=>rfl
 | n+1,a,b=>by simp only [a8V];rw [b9X,b3p n]
theorem b9W(y:Nat):b9x (y*2)=y:=by
 unfold b9x
 rw [c8h,if_neg (by omega),Nat.shiftRight_eq_div_pow,Nat.xor_zero]
 omega
theorem b3o{z:Nat}:a8V 4 z=(z >>> 4) ^^^ b1M (z &&& 15):=by
 have h1:z=((z >>> 4)*16) ^^^ (z &&& 15):=by
  have e:(z >>> 4)*16=(z >>> 4) <<< 4:=by rw [Nat.shiftLeft_eq]
  rw [e]
  apply Nat.eq_of_testBit_eq
  intro i
  have h15:(15:Nat)=2 ^ 4 - 1:=by decide
  rw [Nat.testBit_xor,Nat.testBit_shiftLeft,Nat.testBit_and,h15,Nat.testBit_two_pow_sub_one]
  by_cases hi:i<4
  ·have:¬ i >= 4:=by omega
   simp [hi,this]
  have h4:i >= 4:=by omega
  rw [Nat.testBit_shiftRight]
  have:4+(i - 4)=i:=by omega
  simp [hi,h4,this]
 have h2:a8V 4 ((z >>> 4)*16)=z >>> 4:=by
  have e:(z >>> 4)*16=(z >>> 4)*2*2*2*2:=by omega
  rw [e]
  simp only [a8V,b9W]
 have h3:a8V 4 (z &&& 15)=b1M (z &&& 15):=by
  have h4:((List.range 16).all fun l=>decide (a8V 4 l=b1M l))=true:=by kernel_rfl
  have:=List.all_eq_true.1 h4 (z &&& 15) (by simpa using b5S z)
  simpa using this
 rw [<- h2,<- h3,<- b3p,<- h1]
theorem a9A:∀(m n c:Nat),a8V (m+n) c=a8V n (a8V m c)
 | 0,n,c=>by simp [a8V]
 | m+1,n,c=>by
  have:m+1+n=(m+n)+1:=by omega
  rw [this];simp only [a8V];exact a9A m n _
theorem b5w(c x:Nat):a4t c x=a8V 8 (c ^^^ x):=by
 rw [show (8:Nat)=4+4 from rfl,a9A,b3o,b3o]
 rfl
def a7D(x:Nat):Nat->Nat->Nat
 | 0,c=>c
 | k+1,c=>(a7D x k c >>> 1) ^^^ (if (a7D x k c ^^^ (x >>> k)) &&& 1=1 then c0g else 0)
theorem b1k(x c:Nat):∀k,a7D x k c ^^^ (x >>> k)=a8V k (c ^^^ x)
 | 0=>by simp [a7D,a8V]
 | k+1=>by
  have ih:=b1k x c k
  have h1:a8V (k+1) (c ^^^ x)=b9x (a8V k (c ^^^ x)):=by rw [a9A k 1];rfl
  rw [h1,<- ih]
  show ((a7D x k c >>> 1) ^^^ (if (a7D x k c ^^^ (x >>> k)) &&& 1=1 then c0g else 0)) ^^^ (x >>> (k+1))=b9x (a7D x k c ^^^ (x >>> k))
  generalize a7D x k c=r at *
  unfold b9x
  generalize (if (r ^^^ (x >>> k)) &&& 1=1 then c0g else 0)=q
  rw [Nat.shiftRight_xor_distrib,<- Nat.shiftRight_add,Nat.xor_assoc,Nat.xor_comm q,<- Nat.xor_assoc]
theorem c7j{x c:Nat}(hx:x<256):a7D x 8 c=a4t c x:=by
 have h:=b1k x c 8
 have h1:x >>> 8=0:=by rw [Nat.shiftRight_eq_div_pow];omega
 rw [h1,Nat.xor_zero] at h
 rw [h,b5w]
theorem b7Z{x c:Nat}(hc:c<4294967296):∀k,a7D x k c<4294967296
 | 0=>hc
 | k+1=>by
  have ih:=b7Z (x:=x) hc k
  simp only [a7D]
  have h2:a7D x k c >>> 1<2 ^ 32:=Nat.lt_of_le_of_lt (Nat.shiftRight_le _ _) ih
  refine Nat.xor_lt_two_pow (n:=32) h2 ?_
  split<;>decide
theorem c9z(c:Nat):(c:Int).fdiv (2 ^ (min (1:Int).toNat IntKind.u32.bits))=((c >>> 1:Nat):Int):=by
 have h:(2:Int) ^ (min (1:Int).toNat IntKind.u32.bits)=((2 ^ 1:Nat):Int):=by decide
 rw [h,Int.fdiv_eq_ediv_of_nonneg _ (by omega),Nat.shiftRight_eq_div_pow]
 exact (Int.natCast_ediv c (2 ^ 1)).symm
theorem c9B{x k:Nat}(hk:k<8):(x:Int).fdiv (2 ^ (min ((k:Nat):Int).toNat IntKind.u8.bits))=((x >>> k:Nat):Int):=by
 have h:(2:Int) ^ (min ((k:Nat):Int).toNat IntKind.u8.bits)=((2 ^ k:Nat):Int):=by
  have:min ((k:Nat):Int).toNat IntKind.u8.bits=k:=by simp [IntKind.bits];omega
  rw [this];simp
 rw [h,Int.fdiv_eq_ediv_of_nonneg _ (Int.natCast_nonneg _),Nat.shiftRight_eq_div_pow]
 exact (Int.natCast_ediv x (2 ^ k)).symm
theorem c8w{a:Nat}(ha:a<4294967296):a2g .and .u32 (a:Int) 1=((a &&& 1:Nat):Int):=c5V ha (by decide)
theorem d0r{a:Nat}(ha:a<4294967296):a2g .xor .u32 (a:Int) 2197175160=((a ^^^ c0g:Nat):Int):=b5B ha (by decide)
attribute [local irreducible] a0B a1G AWp Nx awM
theorem c7z(X:Nat->Prop)(c:Nat)(hc:c<4294967296)(l:List UInt8)(hl:l.length<=1073741824) :
  a0b (E0 X) 175 [b1I c,.sl 1 (l.map u8A)] [] (fun r H'=>r=b1I (a5J c l)/\H'=[]):=by
 have hall:∀(k:Nat),(l.take k).foldl (fun c x=>a4t c x.toNat) (c ^^^ b2d)<4294967296:=fun k=>by
  have h0:c ^^^ b2d<2 ^ 32:=Nat.xor_lt_two_pow hc (by decide)
  have:∀(l:List UInt8) (c:Nat),c<4294967296->l.foldl (fun c x=>a4t c x.toNat) c<4294967296:=by
   intro l
   induction l with
   | nil=>intro c h;exact h
   | cons x l ih=>intro c h;exact ih _ (b0B h (by have:=x.toNat_lt;omega))
  exact this _ _ h0
 refine Z0 Proofs.Tryz.func175 rfl Proofs.Tryz.ntmps175 (by kernel_rfl) rfl ?_
 repeat' (first|refine Zs rfl ?_|refine Zc rfl ?_)
 refine a0q (fun i:Nat=>⟨[(0,b1I ((l.take i).foldl (fun c x=>a4t c x.toNat) (c ^^^ b2d))),(1,.sl 1 (l.map u8A)),(5,.int .i64 (i:Int))],[]⟩) (fun i=>i<=l.length) (fun i=>l.length - i) 0 (Nat.zero_le _) ?_ ?_
 ·refine a0i 0 (Nat.zero_le _) a0T rfl (by simp) ?_
  refine a0a ⟨?_,trivial⟩ ?_
  ·exact congrArg (AV.int .u32) (notM c hc)
  repeat' (first|exact a0k|refine a0a ⟨?_,?_⟩ ?_)
  all_goals (try first|exact rfl|exact trivial|(simp [a0g,a0e];done))
 rintro i hi
 repeat' (first|refine Zs rfl ?_|refine Zc rfl ?_|refine Zh ?_|refine Qs ?_)
 refine a0d rfl (fun h3=>?_) (fun h3=>?_)
 ·have hi3:i<l.length:=by rw [List.length_map] at h3;omega
  obtain ⟨q,hq⟩:∃q,l[i]?=some q:=⟨_,List.getElem?_eq_getElem hi3⟩
  have hq8:=q.toNat_lt
  have hn:(l.take (i+1)).foldl (fun c x=>a4t c x.toNat) (c ^^^ b2d)=a7D q.toNat 8 ((l.take i).foldl (fun c x=>a4t c x.toNat) (c ^^^ b2d)):=by
   rw [List.take_add_one,hq,List.foldl_append,c7j (by omega)];rfl
  have hci:=hall i
  generalize (l.take i).foldl (fun c x=>a4t c x.toNat) (c ^^^ b2d)=ci at *
  repeat' (first|refine Zs rfl ?_|refine Zc rfl ?_)
  refine a0q (fun k:Nat=>⟨[(0,b1I (a7D q.toNat k ci)),(1,.sl 1 (l.map u8A)),(5,.int .i64 (i:Int)),(6,.int .u64 (k:Int))],[]⟩) (fun k=>k<=8) (fun k=>8 - k) 0 (Nat.zero_le _) ?_ ?_
  ·refine a0i 0 (Nat.zero_le _) a0T rfl (by simp) ?_
   repeat' (first|exact a0k|refine a0a ⟨?_,?_⟩ ?_)
   all_goals (try first|exact rfl|exact trivial|(simp [a0g,a0e];done))
  rintro k hk
  have hck:=b7Z (x:=q.toNat) hci k
  repeat' (first|refine Zs rfl ?_|refine Zc rfl ?_|refine Zh ?_|refine Qs ?_)
  refine a0d rfl (fun h4=>?_) (fun h4=>?_)
  ·have hk8:k<8:=by omega
   have hx:q.toNat >>> k<256:=Nat.lt_of_le_of_lt (Nat.shiftRight_le _ _) (by omega)
   have hxx:a7D q.toNat k ci ^^^ (q.toNat >>> k)<4294967296:=Nat.xor_lt_two_pow (n:=32) hck (Nat.lt_trans hx (by decide))
   have hck1:a7D q.toNat k ci >>> 1<4294967296:=Nat.lt_of_le_of_lt (Nat.shiftRight_le _ _) hck
   have hkw:IntKind.u64.wrap ((k:Int)+1)=((k+1:Nat):Int):=wrap64 (n:=k+1) (by omega)
   repeat' (first|refine Zs rfl ?_|refine Zc rfl ?_|refine Qa rfl ?_)
   refine a0y hq rfl rfl rfl rfl rfl rfl rfl (by first|rfl|omega) rfl ?_
   refine nx rfl rfl ?_
   repeat' (first|refine Zs rfl ?_|refine Qa rfl ?_)
   refine a4K rfl rfl (by omega) ?_
   refine nx rfl rfl ?_
   rw [c9B hk8]
   repeat' (first|refine Zs rfl ?_|refine Zc rfl ?_|refine Qa rfl ?_)
   rw [wrap32 (by omega),b5B hck (by omega),c8w hxx]
   refine a4K rfl rfl (by decide) ?_
   refine nx rfl rfl ?_
   rw [c9z]
   repeat' (first|refine Zs rfl ?_|refine Zc rfl ?_|refine Zh ?_|refine Qs ?_)
   refine a0d rfl (fun h5=>?_) (fun h5=>?_)
   ·have h6:(a7D q.toNat k ci ^^^ (q.toNat >>> k)) &&& 1=1:=by omega
    have h7:a7D q.toNat (k+1) ci=(a7D q.toNat k ci >>> 1) ^^^ c0g:=by simp only [a7D];rw [if_pos h6]
    repeat' (first|refine Zs rfl ?_|refine Zc rfl ?_|refine Zh ?_|refine Qs ?_)
    rw [d0r hck1,<- h7,hkw]
    refine ⟨k+1,by omega,by omega,a0i 0 (Nat.zero_le _) a0T rfl (by simp) ?_⟩
    repeat' (first|exact a0k|refine a0a ⟨?_,?_⟩ ?_)
    all_goals (try first|exact rfl|exact trivial|(simp [a0g,a0e];done))
   have h6:¬ (a7D q.toNat k ci ^^^ (q.toNat >>> k)) &&& 1=1:=by omega
   have h7:a7D q.toNat (k+1) ci=a7D q.toNat k ci >>> 1:=by simp only [a7D];rw [if_neg h6,Nat.xor_zero]
   repeat' (first|refine Zs rfl ?_|refine Zc rfl ?_|refine Zh ?_|refine Qs ?_)
   rw [<- h7,hkw]
   refine ⟨k+1,by omega,by omega,a0i 0 (Nat.zero_le _) a0T rfl (by simp) ?_⟩
   repeat' (first|exact a0k|refine a0a ⟨?_,?_⟩ ?_)
   all_goals (try first|exact rfl|exact trivial|(simp [a0g,a0e];done))
  have hk8:k=8:=by omega
  subst hk8
  rw [<- hn]
  repeat' (first|refine Zs rfl ?_|refine Zc rfl ?_|refine Zh ?_|refine Qs ?_)
  refine ⟨i+1,by omega,by omega,a0i 0 (Nat.zero_le _) a0T rfl (by simp) ?_⟩
  repeat' (first|exact a0k|refine a0a ⟨?_,?_⟩ ?_)
  all_goals (try first|exact rfl|exact trivial|(simp [a0g,a0e];done)|(refine congrArg (AV.int .i64) (a0u ?_ ?_ ?_)<;>(first|omega|(simp;omega))))
 have hi3:i=l.length:=by rw [List.length_map] at h3;omega
 subst hi3
 have h9:=hall l.length
 rw [List.take_length] at h9 ⊢
 repeat' (first|refine Zs rfl ?_|refine Zc rfl ?_|refine Zh ?_|refine Qs ?_)
 refine a0c ⟨_,rfl,?_,?_⟩
 ·exact congrArg (AV.int .u32) (notM _ h9)
 ·rfl
theorem c2Q(X:Nat->Prop)(l:List UInt8)(hl:l.length<=1073741824) :
  a0b (E0 X) 130 [.sl 1 (l.map u8A)] [] (fun r H'=>r=b1I (a5J 0 l)/\H'=[]):=by
 refine Z0 Proofs.Tryz.func130 rfl Proofs.Tryz.ntmps130 (by kernel_rfl) rfl ?_
 repeat' (first|refine Zs rfl ?_|refine Zc rfl ?_|refine Qa rfl ?_)
 refine Cn rfl (c7z X 0 (by decide) l hl) rfl rfl ?_
 repeat' (first|refine Zs rfl ?_|refine Zh ?_|refine Qs ?_)
 refine a0c ⟨_,rfl,?_,?_⟩
 ·rfl
 ·rfl
theorem c1r(X:Nat->Prop)(b:List UInt8)(n w:Nat)(hw:1<=w)(hw8:w<=8)(hb:b.length<=1048576) :
  a0b (E0 X) 85 [.sl 1 (b.map u8A),.int .u64 (n:Int),.int .i64 (w:Int)] [] (fun r H'=>r=.own 0 0 (b.length+w)/\H'=[some (.arr ((a1b b n w).map u8A) 5)]):=by
 refine Z0 Proofs.Tryz.func85 rfl Proofs.Tryz.ntmps85 (by kernel_rfl) rfl ?_
 repeat' (first|refine Zs rfl ?_|refine Zc rfl ?_|refine Qa rfl ?_)
 refine a0V (oid:=none) (es:=[]) (out:=b.map u8A) (n:=b.length) (rfl) (rfl) (a0P _) (rfl) (by simp) (by show _<=9223372036854775807;omega) (by show _*1<=_;omega) rfl rfl rfl rfl rfl rfl rfl rfl ?_
 refine nx rfl rfl ?_
 repeat' (first|refine Zs rfl ?_|refine Zc rfl ?_|refine Zh ?_|refine Qs ?_|((fail_if_success refine QV rfl ?_);refine Qy rfl rfl (fun _=>?_) (fun _=>?_)))
 ·omega
 rename_i h1
 refine a0d rfl (fun h2=>?_) (fun h2=>?_)
 ·omega
 have e1:IntKind.i64.wrap ((w:Int) - 1)=(w:Int) - 1 - ((0:Nat):Int):=by
  rw [a0p (by omega) (by omega)];omega
 repeat' (first|refine Zs rfl ?_|refine Zc rfl ?_)
 rw [e1]
 refine a0q (fun i:Nat=>⟨[(1,.int .u64 (n:Int)),(7,.own 0 0 (b.length+i)),(8,.int .i64 ((w:Int) - 1 - (i:Int)))],[some (.arr ((b++b0f n w i).map u8A) 5)]⟩) (fun i=>i<=w) (fun i=>w - i) 0 (Nat.zero_le _) ?_ ?_
 ·refine a0i 1 (Nat.zero_le _) (a9L _) (by simp [b0f]) (by simp) ?_
  repeat' (first|exact a0k|refine a0a ⟨?_,?_⟩ ?_)
  all_goals (try first|exact rfl|exact trivial|(simp [a0g,a0e];done))
 rintro i hi
 repeat' (first|refine Zs rfl ?_|refine Zc rfl ?_|refine Zh ?_|refine Qs ?_)
 refine a0d rfl (fun h3=>?_) (fun h3=>?_)
 ·have hi3:i<w:=by omega
  have hsh:(w:Int) - 1 - (i:Int)=((w - 1 - i:Nat):Int):=by omega
  have e2:IntKind.u64.wrap (IntKind.i64.wrap (8*((w - 1 - i:Nat):Int)))=((8*(w - 1 - i):Nat):Int):=by
   have h4:IntKind.i64.wrap (8*((w - 1 - i:Nat):Int))=((8*(w - 1 - i):Nat):Int):=a0u (by omega) (by omega) (by omega)
   rw [h4,wrap64 (by omega)]
  rw [hsh]
  repeat' (first|refine Zs rfl ?_|refine Zc rfl ?_|refine Qa rfl ?_)
  rw [e2]
  refine a4K rfl rfl (by omega) ?_
  refine nx rfl rfl ?_
  repeat' (first|refine Zs rfl ?_|refine Qa rfl ?_)
  rw [b0J n _ (by omega)]
  refine a0V (oid:=some 0) (es:=(b++b0f n w i).map u8A) (out:=(b++b0f n w (i+1)).map u8A) (n:=b.length+(i+1)) (a0J rfl (by simp [a6d])) (rfl) (a0P [a0j n (8*(w - 1 - i))]) (by rw [b1h];simp) (by simp [a6d];omega) (by show _<=9223372036854775807;omega) (by show _*1<=_;omega) rfl rfl rfl rfl rfl rfl rfl rfl ?_
  refine nx rfl rfl ?_
  repeat' (first|refine Zs rfl ?_|refine Zc rfl ?_|refine Zh ?_|refine Qs ?_)
  refine ⟨i+1,by omega,by omega,?_⟩
  refine a0L 0 [1] (H':=[some (.arr ((b++b0f n w (i+1)).map u8A) 5)]) (os:=[.arr ((b++b0f n w (i+1)).map u8A) 5]) (Nat.le_refl _) (Nat.zero_le _) (by simp) (by simp) (by simp [HOk]) rfl rfl ?_ ?_
  ·refine a0a (a0s rfl trivial) (a0a (a0D rfl) (a0a (a0s ?_ trivial) a0k))
   exact congrArg (AV.int .i64) (a0u (by omega) (by omega) (by omega))
  ·exact a0v rfl (a0A 0 (fun i h=>absurd h (Nat.not_lt_zero i)) (a0h fun _=>a0n)) a0N
 have hi3:i=w:=by omega
 subst hi3
 repeat' (first|refine Zs rfl ?_|refine Zc rfl ?_|refine Zh ?_|refine Qs ?_)
 refine a0c ⟨_,rfl,?_,?_⟩
 ·rfl
 ·rfl
theorem a1C(X:Nat->Prop)(H:Hp)(x:AV)(b:List UInt8)(n w:Nat)(hw:1<=w)(hw8:w<=8)(hb:b.length<=1048576)(hx:a7d (E0 X) H 1 x=some (b.map u8A)) :
  a0b (E0 X) 85 [x,.int .u64 (n:Int),.int .i64 (w:Int)] H (fun r H'=>r=.own H.length 0 (b.length+w)/\H'=H++[some (.arr ((a1b b n w).map u8A) 5)]):=by
 refine (a1H (E:=E0 X) (P:=fun v H'=>v=.own 0 0 (b.length+w)/\H'=[some (.arr ((a1b b n w).map u8A) 5)]) (fun X=>c1r X b n w hw hw8 hb) (fun r h' h=>by
  obtain ⟨h1,h2⟩:=h;subst h1;subst h2;exact ⟨rfl,by simp [a6x,a7n,a2h (f:=u8A) (fun _=>rfl)]⟩) (Bor.sl (a2c _) hx (Bor.same trivial (Bor.same trivial .nil)))).mono ?_
 rintro r H' ⟨r0,h',⟨rfl,rfl⟩,rfl,rfl⟩
 refine ⟨by simp [rnA],?_⟩
 show H++[some (AO.arr (rnL _ (List.map u8A _)) _)]=_
 rw [a1X (fun _=>rfl)]
theorem c6P{n x:Nat}(h:n*256+x<18446744073709551616):IntKind.u64.wrap (IntKind.u64.wrap ((n:Int)*256)+(x:Int))=((n*256+x:Nat):Int):=by
 have h0:(n:Int)*256=((n*256:Nat):Int):=by omega
 have h3:n*256<18446744073709551616:=Nat.lt_of_le_of_lt (Nat.le_add_right _ _) h
 rw [h0,wrap64 h3]
 have h2:((n*256:Nat):Int)+(x:Int)=((n*256+x:Nat):Int):=by omega
 rw [h2,wrap64 h]
theorem a3r(X:Nat->Prop)(l:List UInt8)(hl:l.length<=8) :
  a0b (E0 X) 74 [.sl 1 (l.map u8A)] [] (fun r H'=>r=.int .u64 (a0I l:Int)/\H'=[]):=by
 refine Z0 Proofs.Tryz.func74 rfl Proofs.Tryz.ntmps74 (by kernel_rfl) rfl ?_
 repeat' (first|refine Zs rfl ?_|refine Zc rfl ?_)
 refine a0q (fun i:Nat=>⟨[(0,.sl 1 (l.map u8A)),(3,.int .u64 (a0I (l.take i):Int)),(4,.int .i64 (i:Int))],[]⟩) (fun i=>i<=l.length) (fun i=>l.length - i) 0 (Nat.zero_le _) ?_ ?_
 ·exact kk 0 a0T rfl (by simp [a0g,a0e])
 rintro i hi
 repeat' (first|refine Zs rfl ?_|refine Zc rfl ?_|refine Zh ?_|refine Qs ?_)
 refine a0d rfl (fun h3=>?_) (fun h3=>?_)
 ·have hi3:i<l.length:=by rw [List.length_map] at h3;omega
  obtain ⟨q,hq⟩:∃q,l[i]?=some q:=⟨_,List.getElem?_eq_getElem hi3⟩
  have hn:a0I (l.take (i+1))=a0I (l.take i)*256+q.toNat:=by
   rw [List.take_add_one,hq];exact a8n _ _
  have hlt:=b0a (l.take i)
  have hli:(l.take i).length=i:=by simp;omega
  rw [hli] at hlt
  have hp:256 ^ i<=256 ^ 7:=Nat.pow_le_pow_right (by decide) (by omega)
  have h7:(256:Nat) ^ 7=72057594037927936:=by decide
  have hq8:=q.toNat_lt
  repeat' (first|refine Zs rfl ?_|refine Zc rfl ?_|refine Qa rfl ?_)
  refine a0y hq rfl rfl rfl rfl rfl rfl rfl (by first|rfl|omega) rfl ?_
  refine nx rfl rfl ?_
  repeat' (first|refine Zs rfl ?_|refine Zc rfl ?_|refine Zh ?_|refine Qs ?_)
  rw [wrap64 (n:=q.toNat) (by omega),c6P (by omega),<- hn]
  refine ⟨i+1,by omega,by omega,a0i 0 (Nat.zero_le _) a0T rfl (by simp) ?_⟩
  repeat' (first|exact a0k|refine a0a ⟨?_,?_⟩ ?_)
  all_goals (try first|exact rfl|exact trivial|(simp [a0g,a0e];done)|(refine congrArg (AV.int .i64) (a0u ?_ ?_ ?_)<;>(first|omega|(simp;omega))))
 have hi3:i=l.length:=by rw [List.length_map] at h3;omega
 subst hi3
 rw [List.take_length]
 repeat' (first|refine Zs rfl ?_|refine Zc rfl ?_|refine Zh ?_|refine Qs ?_)
 refine a0c ⟨_,rfl,?_,?_⟩
 ·rfl
 ·rfl
theorem c1W(a b:List UInt8)(c:Nat):a5J (a5J c a) b=a5J c (a++b):=by
 unfold a5J
 rw [List.foldl_append]
 congr 2
 rw [Nat.xor_assoc,Nat.xor_self,Nat.xor_zero]
theorem b6y(X:Nat->Prop)(a b:List UInt8)(ha:a.length<=4611686018427387904) :
  a0b (E0 X) 16 [.sl 1 (a.map u8A),.sl 1 (b.map u8A)] [] (fun r H'=>r=.bool (decide (a=b))/\H'=[]):=by
 have hu:∀{n} {l:List UInt8},a0e n (l.map u8A):=a0h fun _=>a0n
 refine Z0 Proofs.Tryz.func16 rfl Proofs.Tryz.ntmps16 (by kernel_rfl) rfl ?_
 repeat' (first|refine Zb rfl rfl ?_|refine Zc rfl ?_)
 rw [List.length_map,List.length_map]
 refine a0H rfl (fun h1=>?_) (fun h1=>?_)
 ·repeat' (first|refine Zb rfl rfl ?_|refine Zc rfl ?_)
  exact a0c ⟨_,rfl,congrArg AV.bool (by grind),rfl⟩
 have hl:a.length=b.length:=by grind
 repeat' (first|refine Zb rfl rfl ?_|refine Zc rfl ?_)
 refine a0q (fun k:Nat=>⟨[(0,.sl 1 (a.map u8A)),(1,.sl 1 (b.map u8A)),(12,.int .i64 (a.length:Int)),(13,.int .i64 (k:Int))],[]⟩) (fun k=>k<=a.length/\∀j,j<k->a[j]?=b[j]?) (fun k=>a.length - k) 0 ⟨Nat.zero_le _,fun j h=>absurd h (Nat.not_lt_zero j)⟩ ?_ ?_
 ·rw [List.length_map]
  exact ik0 rfl (by simp [a0e,a0g])
 rintro k ⟨hk,h⟩
 repeat' (first|refine Zb rfl rfl ?_|refine Zc rfl ?_)
 refine a0H rfl (fun h2=>?_) (fun h2=>?_)
 ·have hk2:k<a.length:=by grind
  obtain ⟨p,hp⟩:∃p,a[k]?=some p:=⟨_,List.getElem?_eq_getElem hk2⟩
  obtain ⟨q,hq⟩:∃q,b[k]?=some q:=⟨_,List.getElem?_eq_getElem (hl ▸ hk2)⟩
  repeat' (first|refine Zb rfl rfl ?_|refine Zc rfl ?_)
  refine a0m [] [] (by exact rfl) (by kernel_rfl) ?_
  repeat' (refine Zd rfl ?_)
  apply ds rfl rfl rfl rfl
  ·refine a0y hp rfl rfl rfl rfl rfl rfl rfl (by first|rfl|omega) rfl ?_
   exact nx rfl rfl ⟨rfl,rfl⟩
  repeat' (refine Zd rfl ?_)
  apply ds rfl rfl rfl rfl
  ·refine a0y hq rfl rfl rfl rfl rfl rfl rfl (by first|rfl|omega) rfl ?_
   exact nx rfl rfl ⟨rfl,rfl⟩
  repeat' (first|refine Zd rfl ?_|refine Zk ?_)
  have hw:IntKind.i64.wrap ((k:Int)+1)=((k+1:Nat):Int):=a0p (by omega) (by omega)
  refine a0H rfl (fun h3=>?_) (fun h3=>?_)
  ·repeat' (first|refine Zb rfl rfl ?_|refine Zc rfl ?_)
   have hpq:p≠q:=fun e=>by subst e;simp at h3
   exact a0c ⟨_,rfl,congrArg AV.bool (decide_eq_false fun e=>by subst e;rw [hp] at hq;exact hpq (Option.some.inj hq)).symm,rfl⟩
  have hpq:p=q:=by simp at h3;exact UInt8.toNat_inj.1 (by omega)
  repeat' (first|refine Zs rfl ?_|refine Zc rfl ?_)
  rw [hw]
  refine ⟨k+1,⟨hk2,fun j hj=>?_⟩,by omega,ik0 rfl (by simp [a0e,a0g])⟩
  by_cases hjk:j<k
  ·exact h j hjk
  ·rw [show j=k by omega,hp,hq,hpq]
 repeat' (first|refine Zb rfl rfl ?_|refine Zc rfl ?_)
 have hk2:¬ k<a.length:=by grind
 refine a0c ⟨_,rfl,congrArg AV.bool (decide_eq_true (List.ext_getElem? fun j=>?_)).symm,rfl⟩
 by_cases hj:j<k
 ·exact h j hj
 ·rw [List.getElem?_eq_none (by omega),List.getElem?_eq_none (by omega)]
def frI(kind:Nat)(p:List UInt8)(i:Nat):List UInt8:=UInt8.ofNat (kind%256)::(p++List.replicate i 0)
theorem b6I(kind:Nat)(p:List UInt8)(i:Nat):(frI kind p i).length=1+p.length+i:=by simp [frI];omega
theorem c0y(kind:Nat)(p:List UInt8)(i:Nat):frI kind p (i+1)=frI kind p i++[0]:=by simp [frI,List.replicate_succ']
theorem b8f(X:Nat->Prop)(kind salt sector:Nat)(p:List UInt8)(hs:salt<9223372036854775808)(hse:sector<1048576)(hp:p.length<=59) :
  a0b (E0 X) 87 [.int .i64 (kind:Int),.int .i64 (salt:Int),.int .i64 (sector:Int),.sl 1 (p.map u8A)] [] (fun r H'=>r=.own 4 0 64/\5<=H'.length/\H'[4]?=some (some (.arr ((a3Q kind salt sector p).map u8A) 5))):=by
 refine Z0 Proofs.Tryz.func87 rfl Proofs.Tryz.ntmps87 (by kernel_rfl) rfl ?_
 repeat' (first|((refine Qa rfl ?_);(first|refine Q0 ?_|refine Q1 ?_|refine QG rfl rfl rfl rfl ?_);(refine QX rfl rfl ?_))|refine Qa rfl ?_|refine Qh ?_|refine Ql ?_|refine Qo rfl ?_)
 rw [a1s]
 refine a1i rfl rfl rfl rfl rfl rfl rfl (.inr rfl) rfl (.inr rfl) ?_
 refine nx rfl rfl ?_
 repeat' (first|((refine Qa rfl ?_);(refine Q0 ?_);(refine QX rfl rfl ?_))|refine Qa rfl ?_)
 refine a0V (oid:=some 0) (es:=[u8A (UInt8.ofNat (kind%256))]) (out:=(frI kind p 0).map u8A) (n:=1+p.length) (a0J rfl rfl) (rfl) (a0P _) (by simp [frI]) (by simp) (by show _<=9223372036854775807;omega) (by show _*1<=_;omega) rfl rfl rfl rfl rfl rfl rfl rfl ?_
 refine nx rfl rfl ?_
 repeat' (first|((refine Qa rfl ?_);(refine Q1 ?_);(refine QX rfl rfl ?_))|refine Qh ?_|refine Ql ?_|refine Qn ?_)
 refine a0q (fun i:Nat=>⟨[(0,.int .i64 (kind:Int)),(1,.int .i64 (salt:Int)),(2,.int .i64 (sector:Int)),(9,.own 0 0 (1+p.length+i))],[some (.arr ((frI kind p i).map u8A) 5)]⟩) (fun i=>i<=59 - p.length) (fun i=>59 - p.length - i) 0 (Nat.zero_le _) ?_ ?_
 ·refine a0L 0 [1] (H':=[some (.arr ((frI kind p 0).map u8A) 5)]) (os:=[.arr ((frI kind p 0).map u8A) 5]) (Nat.le_refl _) (Nat.zero_le _) (by simp) (by simp) (by simp [HOk]) rfl rfl ?_ ?_
  ·exact a0a (a0s rfl trivial) (a0a (a0s rfl trivial) (a0a (a0s rfl trivial) (a0a (a0D rfl) a0k)))
  ·exact a0v rfl (a0A 0 (fun i h=>absurd h (Nat.not_lt_zero i)) (a0h fun _=>a0n)) a0N
 rintro i hi
 repeat' (first|refine Zs rfl ?_|refine Zc rfl ?_|refine Zh ?_|refine Qs ?_)
 refine a0d rfl (fun h3=>?_) (fun h3=>?_)
 ·have hi3:i<59 - p.length:=by omega
  repeat' (first|refine Zs rfl ?_|refine Zc rfl ?_|refine Qa rfl ?_)
  refine a0V (oid:=some 0) (es:=(frI kind p i).map u8A) (out:=(frI kind p (i+1)).map u8A) (n:=1+p.length+(i+1)) (a0J rfl (by rw [List.length_map,b6I])) (rfl) (a0P [0]) (by rw [c0y,List.map_append];rfl) (by rw [List.length_map,b6I];rfl) (by show _<=9223372036854775807;omega) (by show _*1<=_;omega) rfl rfl rfl rfl rfl rfl rfl rfl ?_
  refine nx rfl rfl ?_
  repeat' (first|refine Zs rfl ?_|refine Zh ?_|refine Qs ?_|refine Qu ?_)
  refine ⟨i+1,by omega,by omega,?_⟩
  refine a0L 0 [1] (H':=[some (.arr ((frI kind p (i+1)).map u8A) 5)]) (os:=[.arr ((frI kind p (i+1)).map u8A) 5]) (Nat.le_refl _) (Nat.zero_le _) (by simp) (by simp) (by simp [HOk]) rfl rfl ?_ ?_
  ·exact a0a (a0s rfl trivial) (a0a (a0s rfl trivial) (a0a (a0s rfl trivial) (a0a (a0D rfl) a0k)))
  ·exact a0v rfl (a0A 0 (fun i h=>absurd h (Nat.not_lt_zero i)) (a0h fun _=>a0n)) a0N
 have hi3:i=59 - p.length:=by omega
 subst hi3
 have hfb:frI kind p (59 - p.length)=frB kind p:=rfl
 have hbl:=b2l (kind:=kind) hp
 have hll:1+p.length+(59 - p.length)=60:=by omega
 rw [hfb,hll]
 have henc:a3Q kind salt sector p=a1b (frB kind p) (a5J 0 (a1b (a1b [] salt 8) sector 4++frB kind p)) 4:=by
  rw [<- c1W];rfl
 rw [henc]
 generalize frB kind p=fb at *
 have hl8:(a1b [] salt 8).length=8:=by rw [a0E];rfl
 have hl12:(a1b (a1b [] salt 8) sector 4).length=12:=by rw [a0E,hl8]
 repeat' (first|refine Zs rfl ?_|refine Zc rfl ?_|refine Qa rfl ?_)
 rw [wrap64 (by omega)]
 refine Cn rfl (a1C X _ _ [] salt 8 (by decide) (by decide) (by simp) rfl) rfl rfl ?_
 repeat' (first|refine Zs rfl ?_|refine Qa rfl ?_)
 rw [wrap64 (by omega)]
 refine Cn rfl (a1C X _ _ (a1b [] salt 8) sector 4 (by decide) (by decide) (by omega) (a0z rfl rfl rfl (by rw [hl8];decide) (by rw [List.drop_zero,List.take_of_length_le (by rw [hl8];decide)]))) rfl rfl ?_
 rw [hl8]
 repeat' (first|refine Zs rfl ?_|refine Zc rfl ?_|refine Qa rfl ?_)
 generalize a1b (a1b [] salt 8) sector 4=pl at *
 refine a0V (oid:=some 2) (es:=pl.map u8A) (out:=(pl++fb).map u8A) (n:=72) (a0J rfl (by rw [List.length_map,hl12])) ((a0z rfl rfl rfl (by omega) (by rw [List.drop_zero,List.take_of_length_le (by omega)]))) (a0P _) (by rw [List.map_append]) (by rw [List.length_map,List.length_map];omega) (by show _<=9223372036854775807;omega) (by show _*1<=_;omega) rfl rfl rfl rfl rfl rfl rfl rfl ?_
 refine nx rfl rfl ?_
 repeat' (refine Qa rfl ?_)
 have hsl:(pl++fb).length=72:=by rw [List.length_append];omega
 refine Cn rfl (a1z (E:=E0 X) (fun X=>c2Q X (pl++fb) (by omega)) rfl (Bor.sl (a2c _) (a0z rfl rfl rfl (by omega) (by rw [List.drop_zero,List.take_of_length_le (by omega)])) .nil)) rfl rfl ?_
 have hlt:a5J 0 (pl++fb)<4294967296:=a6L (by decide) _
 repeat' (first|refine Zs rfl ?_|refine Qa rfl ?_)
 rw [wrap64 (by omega)]
 refine Cn rfl (a1C X _ _ fb (a5J 0 (pl++fb)) 4 (by decide) (by decide) (by omega) (a0z rfl rfl rfl (by omega) (by rw [List.drop_zero,List.take_of_length_le (by omega)]))) rfl rfl ?_
 repeat' (first|refine Zs rfl ?_|refine Zh ?_|refine Qs ?_)
 refine a0c ⟨_,rfl,?_,?_,rfl⟩
 ·show AV.own 4 0 (fb.length+4)=_
  rw [hbl]
 ·show 5<=5
  decide
theorem b2L(X:Nat->Prop)(kind salt sector:Nat)(p:List UInt8)(hs:salt<9223372036854775808)(hse:sector<1048576)(hp:p.length<=59) :
  a0b (E0 X) 87 [.int .i64 (kind:Int),.int .i64 (salt:Int),.int .i64 (sector:Int),.sl 1 (p.map u8A)] [] (fun r H'=>r=.sl 1 ((a3Q kind salt sector p).map u8A)/\H'=[]) :=
 a0b.frz0 (e:=5) 1 ((b8f X kind salt sector p hs hse hp).mono fun r H' ⟨h1,_,h2⟩=>⟨4,64,h1,by rw [List.length_map,a2W hp],h2⟩) rfl rfl (a0h fun _=>a0n)
theorem b8e(X:Nat->Prop)(kind salt sector:Nat)(p:List UInt8)(hs:salt<9223372036854775808)(hse:sector<1048576)(hp:p.length<=59) :
  a0b (E0 X) 87 [.int .i64 (kind:Int),.int .i64 (salt:Int),.int .i64 (sector:Int),.sl 1 (p.map u8A)] [] (fun r H'=>r=.own 0 0 64/\H'=[some (.arr ((a3Q kind salt sector p).map u8A) 5)]) :=
 (b8f X kind salt sector p hs hse hp).imp fun r H' ⟨h1,h3,h2⟩=>by
  subst h1
  refine ⟨_,_,⟨rfl,rfl⟩,?_⟩
  refine a0L 0 [4] (H':=[some (.arr ((a3Q kind salt sector p).map u8A) 5)]) (os:=[.arr ((a3Q kind salt sector p).map u8A) 5]) (Nat.le_refl _) (Nat.zero_le _) (by simp) (by simp) (by simp [HOk]) rfl (by simp) ?_ ?_
  ·exact a0a (a0D rfl) a0k
  ·exact a0v h2 (a0A 0 (fun i h=>absurd h (Nat.not_lt_zero i)) (a0h fun _=>a0n)) a0N
theorem b0o(X:Nat->Prop)(H:Hp)(x:AV)(kind salt sector:Nat)(p:List UInt8)(hs:salt<9223372036854775808)(hse:sector<1048576)(hp:p.length<=59)(hx:a7d (E0 X) H 1 x=some (p.map u8A)) :
  a0b (E0 X) 87 [.int .i64 (kind:Int),.int .i64 (salt:Int),.int .i64 (sector:Int),x] H (fun r H'=>r=.own H.length 0 64/\H'=H++[some (.arr ((a3Q kind salt sector p).map u8A) 5)]):=by
 refine (a1H (E:=E0 X) (P:=fun v H'=>v=.own 0 0 64/\H'=[some (.arr ((a3Q kind salt sector p).map u8A) 5)]) (fun X=>b8e X kind salt sector p hs hse hp) (fun r h' h=>by
  obtain ⟨h1,h2⟩:=h;subst h1;subst h2;exact ⟨rfl,by simp [a6x,a7n,a2h (f:=u8A) (fun _=>rfl)]⟩) (Bor.same trivial (Bor.same trivial (Bor.same trivial (Bor.sl (a2c _) hx .nil))))).mono ?_
 rintro r H' ⟨r0,h',⟨rfl,rfl⟩,rfl,rfl⟩
 refine ⟨by simp [rnA],?_⟩
 show H++[some (AO.arr (rnL _ (List.map u8A _)) _)]=_
 rw [a1X (fun _=>rfl)]
def c6L(n:Int):Nat->Nat->Int
 | _,0=>-1
 | k,m+1=>if n=((2 ^ k:Nat):Int) then (k:Int) else c6L n (k+1) m
def b3S(n:Int):Int:=c6L n 0 12
theorem b7m(rs:Int):decide (1<=b3S rs)=(decide (2<=rs)&&(decide (rs<=2048)&&decide (a2g .and .i64 rs (IntKind.i64.wrap (rs - 1))=0))):=by
 by_cases h:0<=rs/\rs<=2048
 ·have h1:((List.range 2049).all fun n=>decide (1<=b3S (n:Int)) == (decide (2<=(n:Int))&&(decide ((n:Int)<=2048)&&decide (a2g .and .i64 (n:Int) (IntKind.i64.wrap ((n:Int) - 1))=0))))=true:=by kernel_rfl
  obtain ⟨n,rfl⟩:=Int.eq_ofNat_of_zero_le h.1
  have h3:=List.all_eq_true.1 h1 n (by simp;omega)
  exact eq_of_beq h3
 have h2:b3S rs=-1:=by
  simp only [b3S,c6L]
  repeat (rw [if_neg (by omega)])
 rw [h2]
 by_cases h3:2<=rs
 ·have:decide (rs<=2048)=false:=decide_eq_false (by omega)
  rw [this];simp
 ·have:decide (2<=rs)=false:=decide_eq_false h3
  rw [this];simp
theorem c3W{rs:Int}(h:2<=rs/\rs<=2048)(h2:a2g .and .i64 rs (IntKind.i64.wrap (rs - 1))=0):max (b3S rs) 0=((a5f rs.toNat - 1:Nat):Int):=by
 have h1:((List.range 2049).all fun n=>!(decide (2<=(n:Int))) || (!(decide (a2g .and .i64 (n:Int) (IntKind.i64.wrap ((n:Int) - 1))=0)) || decide (max (b3S (n:Int)) 0=((a5f n - 1:Nat):Int))))=true:=by kernel_rfl
 obtain ⟨n,rfl⟩:=Int.eq_ofNat_of_zero_le (show 0<=rs by omega)
 have h3:=List.all_eq_true.1 h1 n (by simp;omega)
 rw [decide_eq_true h.1,decide_eq_true h2] at h3
 simpa using h3
theorem c3V(X:Nat->Prop)(n:Int):a0b (E0 X) 136 [.int .i64 n] [] (fun r H'=>r=.int .i64 (b3S n)/\H'=[]):=by
 refine Z0 Proofs.Tryz.func136 rfl Proofs.Tryz.ntmps136 (by kernel_rfl) rfl ?_
 repeat' (first|refine Zs rfl ?_|refine Zc rfl ?_)
 refine a0q (fun k:Nat=>⟨[(0,.int .i64 n),(3,.int .i64 (k:Int))],[]⟩) (fun k=>k<=12/\c6L n k (12 - k)=b3S n) (fun k=>12 - k) 0 ⟨Nat.zero_le _,rfl⟩ ?_ ?_
 ·refine a0i 0 (Nat.zero_le _) a0T rfl (by simp) ?_
  repeat' (first|exact a0k|refine a0a ⟨?_,?_⟩ ?_)
  all_goals (try first|exact rfl|exact trivial)
 rintro k ⟨hk,hr⟩
 repeat' (first|refine Zs rfl ?_|refine Zc rfl ?_|refine Zh ?_|refine Qs ?_)
 refine a0d rfl (fun h3=>?_) (fun h3=>?_)
 ·have hk3:k<12:=by omega
  have hr2:(if n=((2 ^ k:Nat):Int) then (k:Int) else c6L n (k+1) (12 - (k+1)))=b3S n:=by
   rw [<- hr]
   have:12 - k=(12 - (k+1))+1:=by omega
   rw [this];rfl
  have e2:IntKind.i64.wrap (1*2 ^ (min ((k:Int)).toNat IntKind.i64.bits))=((2 ^ k:Nat):Int):=by
   have h7:min ((k:Int)).toNat IntKind.i64.bits=k:=by
    have:((k:Int)).toNat=k:=by omega
    rw [this]
    have h1:IntKind.i64.bits=64:=rfl
    omega
   rw [h7,Int.one_mul]
   have h6:(2:Nat) ^ k<=2 ^ 12:=Nat.pow_le_pow_right (by decide) (by omega)
   have h5:(2:Nat) ^ 12=4096:=by decide
   have h3:(2:Int) ^ k=((2 ^ k:Nat):Int):=by simp
   rw [h3]
   generalize 2 ^ k=z at *
   exact a0p (by omega) (by omega)
  repeat' (first|refine Zs rfl ?_|refine Zc rfl ?_|refine Qa rfl ?_)
  rw [wrap64 (by omega)]
  refine a9s rfl rfl (by omega) ?_
  refine nx rfl rfl ?_
  rw [e2]
  repeat' (first|refine Zs rfl ?_|refine Zh ?_|refine Qs ?_)
  refine a0d rfl (fun h4=>?_) (fun h4=>?_)
  ·rw [if_pos h4] at hr2
   repeat' (first|refine Zs rfl ?_|refine Zc rfl ?_|refine Zh ?_|refine Qs ?_)
   refine a0c ⟨_,rfl,?_,?_⟩
   ·rw [<- hr2];rfl
   ·rfl
  rw [if_neg h4] at hr2
  repeat' (first|refine Zs rfl ?_|refine Zc rfl ?_|refine Zh ?_|refine Qs ?_)
  refine ⟨k+1,⟨by omega,hr2⟩,by omega,a0i 0 (Nat.zero_le _) a0T rfl (by simp) ?_⟩
  repeat' (first|exact a0k|refine a0a ⟨?_,?_⟩ ?_)
  all_goals (try first|exact rfl|exact trivial|(refine congrArg (AV.int .i64) (a0u ?_ ?_ ?_)<;>(first|omega|(simp;omega))))
 have hk3:k=12:=by omega
 subst hk3
 repeat' (first|refine Zs rfl ?_|refine Zc rfl ?_|refine Zh ?_|refine Qs ?_)
 refine a0c ⟨_,rfl,?_,?_⟩
 ·rw [<- hr];rfl
 ·rfl
theorem c0w(l:La):a1f l=(decide (1<=l.id)&&(decide (l.id<=4294967295)&&((decide (l.ver=1) || decide (l.ver=2))&&(decide (1<=b3S l.rs)&&(decide (4<=l.regs)&&decide (l.regs<=16)))))):=by
 unfold a1f
 rw [b7m]
 simp only [Bool.and_assoc]
theorem a4H(X:Nat->Prop)(l:La):a0b (E0 X) 82 [laA l] [] (fun r H'=>r=.bool (a1f l)/\H'=[]):=by
 refine a0b.cut0 ?_ trivial
 rw [c0w]
 refine Z0 Proofs.Tryz.func82 rfl Proofs.Tryz.ntmps82 (by kernel_rfl) rfl ?_
 repeat' (first|refine Zs rfl ?_|refine Zc rfl ?_|refine Zh ?_|refine Qa rfl ?_|refine Qs ?_|((fail_if_success refine QV rfl ?_);refine Qy rfl rfl (fun _=>?_) (fun _=>?_)))
 all_goals (first|(refine a0c ?_;refine ⟨_,rfl,?_⟩;simp [a0R,one, *];done)|skip)
 ·refine Cn rfl (a0f (E:=E0 X) (fun X=>c3V X l.rs) (by simp [a0e,a0g]) _) rfl rfl ?_
  repeat' (first|refine Zs rfl ?_|refine Zh ?_|refine Qs ?_|((fail_if_success refine QV rfl ?_);refine Qy rfl rfl (fun _=>?_) (fun _=>?_)))
  all_goals (refine a0c ?_;refine ⟨_,rfl,?_⟩;simp [a0R,one, *])
 skip
 refine Cn rfl (a0f (E:=E0 X) (fun X=>c3V X l.rs) (by simp [a0e,a0g]) _) rfl rfl ?_
 repeat' (first|refine Zs rfl ?_|refine Zh ?_|refine Qs ?_|((fail_if_success refine QV rfl ?_);refine Qy rfl rfl (fun _=>?_) (fun _=>?_)))
 all_goals (refine a0c ?_;refine ⟨_,rfl,?_⟩;simp [a0R,one, *])
theorem b4u(X:Nat->Prop)(p:Pl):a0b (E0 X) 39 [plA p] [] (fun r H'=>r=.bool (a1Z p)/\H'=[]):=by
 refine a0b.cut0 ?_ trivial
 refine Z0 Proofs.Tryz.func39 rfl Proofs.Tryz.ntmps39 (by kernel_rfl) rfl ?_
 repeat' (first|refine Zs rfl ?_|refine Zc rfl ?_|refine Zh ?_|refine Qa rfl ?_|refine Qs ?_|((fail_if_success refine QV rfl ?_);refine Qy rfl rfl (fun _=>?_) (fun _=>?_)))
 any_goals (refine a0c ?_;refine ⟨_,rfl,?_⟩;simp [a1Z,a0R,one, *];done)
 refine Cn rfl (a0f (E:=E0 X) (fun X=>a4H X p.t) (by simp [a0e,a0g]) _) rfl rfl ?_
 cases hf:a1f p.t with
 | false =>
  repeat' (first|refine Zs rfl ?_|refine Zc rfl ?_|refine Zh ?_|refine Qs ?_)
  refine a0c ⟨_,rfl,?_⟩
  simp [a1Z,a0R,one, *]
 | true =>
  repeat' (first|refine Zs rfl ?_|refine Zc rfl ?_|refine Zh ?_|refine Qs ?_|((fail_if_success refine QV rfl ?_);refine Qy rfl rfl (fun _=>?_) (fun _=>?_)))
  all_goals (refine a0c ?_;refine ⟨_,rfl,?_⟩;first|(simp [a1Z,a0R,one, *];done)|(exfalso;omega))
theorem b8o(X:Nat->Prop)(b:List UInt8)(l:La)(hf:c2g l)(hlg:max (b3S l.rs) 0=((a5f l.rs.toNat - 1:Nat):Int))(hb:b.length<=1000) :
  a0b (E0 X) 86 [.sl 1 (b.map u8A),laA l] [] (fun r H'=>∃id n,r=.own id 0 n/\n=((a3p b l).map u8A).length/\H'[id]?=some (some (.arr ((a3p b l).map u8A) 5))):=by
 obtain ⟨id,ver,rs,regs⟩:=l
 obtain ⟨⟨a1,a2⟩,⟨a3,a4⟩,⟨a5,a6⟩,⟨a7,a8⟩⟩:=hf
 simp only at a1 a2 a3 a4 a5 a6 a7 a8 hlg
 obtain ⟨id,rfl⟩:=Int.eq_ofNat_of_zero_le a1
 obtain ⟨ver,rfl⟩:=Int.eq_ofNat_of_zero_le a3
 obtain ⟨rs,rfl⟩:=Int.eq_ofNat_of_zero_le a5
 obtain ⟨regs,rfl⟩:=Int.eq_ofNat_of_zero_le a7
 rw [Int.toNat_natCast] at hlg
 refine Z0 Proofs.Tryz.func86 rfl Proofs.Tryz.ntmps86 (by kernel_rfl) rfl ?_
 repeat' (first|refine Zs rfl ?_|refine Zc rfl ?_|refine Qa rfl ?_)
 rw [wrap64 (by omega)]
 refine Cn rfl (a1C X _ _ b id 4 (by decide) (by decide) (by omega) rfl) rfl rfl ?_
 repeat' (first|refine Zs rfl ?_|refine Zc rfl ?_)
 refine a0t (a0X (id:=0) (cs:=[.int .i64 (id:Int),.int .i64 (ver:Int),.int .i64 (rs:Int),.int .i64 (regs:Int)]) rfl) ?_
 refine a0t (a0L 0 [1] (sl':=[(0,.own 0 0 (b.length+4)),(3,.fp [.int .i64 (id:Int),.int .i64 (ver:Int),.int .i64 (rs:Int),.int .i64 (regs:Int)])]) (H':=[some (.arr ((a1b b id 4).map u8A) 5)]) (os:=[.arr ((a1b b id 4).map u8A) 5]) (Nat.le_refl _) (Nat.zero_le _) (by simp) (by simp) (by simp [HOk]) rfl rfl ?_ ?_) ?_
 ·exact a0a (a0D rfl) (a0a (a0s rfl ⟨trivial,trivial,trivial,trivial,trivial⟩) a0k)
 ·exact a0v rfl (a0A 0 (fun i h=>absurd h (Nat.not_lt_zero i)) (a0h fun _=>a0n)) a0N
 refine a0o [6,13] [0,1,3,4,7,8,9,11,14,2,5,10] (by exact rfl) ?_
 refine a0C (fuel:=0) [0,1,4,9,2,3,5,10,11,6,7,8,12,13,14] (by exact rfl) (by kernel_rfl) (by kernel_rfl) ?_
 repeat' (refine Zd rfl ?_)
 refine a1D rfl rfl rfl ?_
 refine Cn rfl (a0f (E:=E0 X) (fun X=>c3V X rs) (by simp [a0e,a0g]) _) rfl rfl ?_
 repeat' (refine Zd rfl ?_)
 rw [hlg,a1s,a1s,a1s]
 refine a1D rfl rfl rfl ?_
 refine a0V (oid:=some 0) (es:=(a1b b id 4).map u8A) (out:=(a3p b ⟨(id:Int),(ver:Int),(rs:Int),(regs:Int)⟩).map u8A) (n:=b.length+7) (a0J rfl (by rw [List.length_map,a0E])) (rfl) (a0P (c8m ⟨(id:Int),(ver:Int),(rs:Int),(regs:Int)⟩)) (by simp only [a3p,List.map_append];rfl) (by rw [List.length_map,a0E];rfl) (by show _<=9223372036854775807;omega) (by show _*1<=_;omega) rfl rfl rfl rfl rfl rfl rfl rfl ?_
 refine nx rfl rfl ?_
 repeat' (first|refine Zd rfl ?_|refine Zk ?_|refine Qs ?_|refine Qw (by kernel_rfl) ?_)
 refine a0c ⟨_,rfl,1,_,rfl,?_,rfl⟩
 rw [List.length_map,a1R]
theorem a5V{l:La}(hf:a1f l=true):max (b3S l.rs) 0=((a5f l.rs.toNat - 1:Nat):Int):=by
 simp only [a1f,Bool.and_eq_true,Bool.or_eq_true,decide_eq_true_eq] at hf
 exact c3W ⟨hf.2.2.2.1,hf.2.2.2.2.1⟩ hf.2.2.2.2.2.1
theorem c4Y(X:Nat->Prop)(b:List UInt8)(l:La)(hf:a1f l=true)(hb:b.length<=1000) :
  a0b (E0 X) 86 [.sl 1 (b.map u8A),laA l] [] (fun r H'=>r=.sl 1 ((a3p b l).map u8A)/\H'=[]) :=
 a0b.frz0 (e:=5) 1 (b8o X b l (a5v hf) (a5V hf) hb) rfl rfl (a0h fun _=>a0n)
theorem b8i(X:Nat->Prop)(l:La)(hf:a1f l=true) :
  a0b (E0 X) 94 [laA l] [] (fun r H'=>r=.sl 1 ((a3p [] l).map u8A)/\H'=[]):=by
 have hp:∀X,a0b (E0 X) 86 [.nils,laA l] [] (fun r H'=>r=.sl 1 ((a3p [] l).map u8A)/\H'=[]):=fun X =>
  a0b.weak (c4Y X [] l hf (by simp)) fun m w vs h=>by
   obtain ⟨u1,r1,rfl,h1,h⟩:=a0l.1 h
   exact RelL.cons (a2Y 1 h1) h
 refine a0b.cut0 ?_ (a0h fun _=>a0n)
 refine Z0 Proofs.Tryz.func94 rfl Proofs.Tryz.ntmps94 (by kernel_rfl) rfl ?_
 repeat' (first|refine Zs rfl ?_|refine Zc rfl ?_|refine Qa rfl ?_)
 refine Cn rfl (a0f (E:=E0 X) (fun X=>hp X) (by simp [a0e,a0g]) _) rfl rfl ?_
 repeat' (first|refine Zs rfl ?_|refine Zh ?_|refine Qs ?_)
 exact a0c ⟨_,rfl,rfl⟩
theorem b8m(X:Nat->Prop)(p:PlN)(sector:Nat)(hv:a1Z p.pl=true)(hs:sector<1048576) :
  a0b (E0 X) 41 [plA p.pl,.int .i64 (sector:Int)] [] (fun r H'=>r=.sl 1 ((b4R p sector).map u8A)/\H'=[]):=by
 obtain ⟨q,hq,hk,hm,hi,ht,hf⟩:=a2L hv
 have hpq:p=q:=by
  obtain ⟨a,b,c,d,e⟩:=p
  obtain ⟨a2,b2,c2,d2,e2⟩:=q
  simp only [PlN.pl,Pl.mk.injEq] at hq
  obtain ⟨h1,h2,h3,h4,h5⟩:=hq
  simp only [PlN.mk.injEq]
  exact ⟨by omega,by omega,by omega,by omega,h5⟩
 subst hpq
 obtain ⟨kind,mig,idx,tail,t⟩:=p
 simp only at hk hm hi ht hf
 refine a0b.frz0 (e:=5) 1 ?_ rfl rfl (a0h fun _=>a0n)
 show a0b (E0 X) 41 [.agg [.int .i64 (kind:Int),.int .i64 (mig:Int),.int .i64 (idx:Int),.int .i64 (tail:Int),.int .i64 t.id,.int .i64 t.ver,.int .i64 t.rs,.int .i64 t.regs],.int .i64 (sector:Int)] [] _
 refine Z0 Proofs.Tryz.func41 rfl Proofs.Tryz.ntmps41 (by kernel_rfl) rfl ?_
 repeat' (first|refine Zs rfl ?_|refine Zc rfl ?_|refine Qa rfl ?_)
 rw [a1s,wrap64 (by omega)]
 refine Cn rfl (a1C X _ _ [UInt8.ofNat (kind%256)] mig 4 (by decide) (by decide) (by simp) rfl) rfl rfl ?_
 repeat' (first|refine Zs rfl ?_|refine Zc rfl ?_)
 refine a0t (a0X (id:=0) (cs:=[.int .i64 (kind:Int),.int .i64 (mig:Int),.int .i64 (idx:Int),.int .i64 (tail:Int),.int .i64 t.id,.int .i64 t.ver,.int .i64 t.rs,.int .i64 t.regs]) rfl) ?_
 refine a0t (a0L 0 [1] (sl':=[(1,.int .i64 (sector:Int)),(2,.fp [.int .i64 (kind:Int),.int .i64 (mig:Int),.int .i64 (idx:Int),.int .i64 (tail:Int),.int .i64 t.id,.int .i64 t.ver,.int .i64 t.rs,.int .i64 t.regs]),(5,.own 0 0 5)])
  (H':=[some (.arr ((a1b [UInt8.ofNat (kind%256)] mig 4).map u8A) 5)]) (os:=[.arr ((a1b [UInt8.ofNat (kind%256)] mig 4).map u8A) 5]) (Nat.le_refl _) (Nat.zero_le _) (by simp) (by simp) (by simp [HOk]) rfl rfl ?_ ?_) ?_
 ·exact a0a (a0s rfl trivial) (a0a (a0s rfl ⟨trivial,trivial,trivial,trivial,trivial,trivial,trivial,trivial,trivial⟩) (a0a (a0D rfl) a0k))
 ·exact a0v rfl (a0A 0 (fun i h=>absurd h (Nat.not_lt_zero i)) (a0h fun _=>a0n)) a0N
 refine a0o [5,9] [0,1,3,6,8,10,2,7] (by exact rfl) ?_
 refine a0C (fuel:=0) [0,1,6,2,3,4,7,8,5,9,10] (by exact rfl) (by kernel_rfl) (by kernel_rfl) ?_
 repeat' (refine Zd rfl ?_)
 rw [a1s,wrap64 (by omega)]
 refine a1D rfl rfl rfl ?_
 refine a0V (oid:=some 0) (es:=(a1b [UInt8.ofNat (kind%256)] mig 4).map u8A) (out:=(a1b [UInt8.ofNat (kind%256)] mig 4++[UInt8.ofNat (idx%256)]).map u8A) (n:=6) (a0J rfl (by rw [List.length_map,a0E];rfl)) (rfl) (a0P [UInt8.ofNat (idx%256)]) (by rw [List.map_append];rfl) (by rw [List.length_map,a0E];rfl) (by show _<=9223372036854775807;omega) (by show _*1<=_;omega) rfl rfl rfl rfl rfl rfl rfl rfl ?_
 refine nx rfl rfl ?_
 skip
 have hl6:(a1b [UInt8.ofNat (kind%256)] mig 4++[UInt8.ofNat (idx%256)]).length=6:=by rw [List.length_append,a0E];rfl
 refine a1D rfl rfl rfl ?_
 refine Cn rfl (a1C X _ _ (a1b [UInt8.ofNat (kind%256)] mig 4++[UInt8.ofNat (idx%256)]) tail 6 (by decide) (by decide) (by omega) (a0z rfl rfl rfl (by omega) (by rw [List.drop_zero,List.take_of_length_le (by omega)]))) rfl rfl ?_
 have hpay:a1b (a1b [UInt8.ofNat (kind%256)] mig 4++[UInt8.ofNat (idx%256)]) tail 6++a3p [] t=b2F ⟨kind,mig,idx,tail,t⟩:=by
  show _=a3p (a1b (a1b [UInt8.ofNat (kind%256)] mig 4++[UInt8.ofNat (idx%256)]) tail 6) t
  simp [a3p,a1b]
 have hl12:(a1b (a1b [UInt8.ofNat (kind%256)] mig 4++[UInt8.ofNat (idx%256)]) tail 6).length=12:=by rw [a0E,hl6]
 have hl7:(a3p [] t).length=7:=by rw [a1R];rfl
 have hl19:=a7A ⟨kind,mig,idx,tail,t⟩
 have henc:b4R ⟨kind,mig,idx,tail,t⟩ sector=a3Q 4 0 sector (b2F ⟨kind,mig,idx,tail,t⟩):=rfl
 rw [hl6,henc]
 generalize b2F ⟨kind,mig,idx,tail,t⟩=pay at *
 generalize a1b (a1b [UInt8.ofNat (kind%256)] mig 4++[UInt8.ofNat (idx%256)]) tail 6=b12 at *
 repeat' (first|refine Zs rfl ?_|refine Zd rfl ?_|refine Zc rfl ?_|refine Zk ?_|refine Qa rfl ?_|refine Qw (by kernel_rfl) ?_)
 refine Cn rfl (a0f (E:=E0 X) (fun X=>b8i X t hf) (by simp [a0e,a0g]) _) rfl rfl ?_
 repeat' (refine Qa rfl ?_)
 refine a0V (oid:=some 2) (es:=b12.map u8A) (out:=pay.map u8A) (n:=19) (a0J rfl (by rw [List.length_map,hl12])) (rfl) (a0P _) (by rw [<- hpay,List.map_append]) (by rw [List.length_map,List.length_map];omega) (by show _<=9223372036854775807;omega) (by show _*1<=_;omega) rfl rfl rfl rfl rfl rfl rfl rfl ?_
 refine nx rfl rfl ?_
 repeat' (refine Qa rfl ?_)
 refine Cn rfl (b0o X _ _ 4 0 sector pay (by decide) hs (by omega) (a0z rfl rfl rfl (by omega) (by rw [List.drop_zero,List.take_of_length_le (by omega)]))) rfl rfl ?_
 repeat' (first|refine Zs rfl ?_|refine Zh ?_|refine Qs ?_)
 refine a0c ⟨_,rfl,4,_,rfl,?_,rfl⟩
 rw [List.length_map,a2W (by omega)]
def rdL(x0 x1 x2 x3 x4 x5 x6:UInt8):La :=
 ⟨(a0I [x0,x1,x2,x3]:Nat),(x4.toNat:Int),if a0I [x0,x1,x2,x3]=0/\x4.toNat=0/\x6.toNat=0/\x5.toNat=0 then 0 else ((2 ^ min x5.toNat 12:Nat):Int),(x6.toNat:Int)⟩
def rdV:List UInt8->La
 | [x0,x1,x2,x3,x4,x5,x6]=>rdL x0 x1 x2 x3 x4 x5 x6
 | _=>⟨0,0,0,0⟩
theorem b1s{rs:Int}(h:2<=rs/\rs<=2048)(h2:a2g .and .i64 rs (IntKind.i64.wrap (rs - 1))=0):((2 ^ min ((a5f rs.toNat - 1)%256) 12:Nat):Int)=rs:=by
 have h1:((List.range 2049).all fun n=>!(decide (2<=n)) || (!(decide (a2g .and .i64 (n:Int) (IntKind.i64.wrap ((n:Int) - 1))=0)) || decide (2 ^ min ((a5f n - 1)%256) 12=n)))=true:=by kernel_rfl
 obtain ⟨n,rfl⟩:=Int.eq_ofNat_of_zero_le (show 0<=rs by omega)
 have h3:=List.all_eq_true.1 h1 n (by simp;omega)
 have h4:decide (2<=n)=true:=by simp;omega
 rw [h4,decide_eq_true h2] at h3
 simp only [Bool.not_true,Bool.false_or,decide_eq_true_eq] at h3
 simp only [Int.toNat_natCast];rw [h3]
theorem a4j{n:Nat}(h:n<=255):(UInt8.ofNat (n%256)).toNat=n:=by
 rw [UInt8.toNat_ofNat'];omega
end Go.Abs
