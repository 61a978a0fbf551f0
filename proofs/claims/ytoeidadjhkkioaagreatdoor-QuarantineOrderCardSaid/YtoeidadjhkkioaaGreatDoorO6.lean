/- Texts joined. -/
import Derived.Test.YtoeidadjhkkioaaGreatDoorO5
set_option linter.unusedVariables false
set_option linter.unusedSimpArgs false
namespace Go.Ar
variable {c:cA}{ss:List cH}
structure dI (c:cA) (ss:List cH):Prop where
 ok:c.ok
 tk:∀s∈ss,s.tk.length=c.n
 uL:ss.Pairwise λa b=>a.st+c.aF<=b.st
def Tk (c:cA)(ss:List cH)(x:Int):Prop:=eH c ss x=some true
def wm (c:cA)(ss:List cH)(p:Nat):Prop:=∃s∈ss,s.st<=p/\p<s.st+c.aF
theorem dI.pos (h:dI c ss):0<c.size:=by have:=h.ok;unfold cA.ok at this;omega
theorem dI.pg (h:dI c ss):1<=c.aF:=by have:=h.ok;unfold cA.ok at this;omega
theorem dI.q9 (h:dI c ss):ss.Pairwise λa b=>a.st<b.st:=h.uL.imp λ{a b} d=>by have:=h.pg;omega
theorem dI.tM (h:dI c ss){i j:Nat}{s t:cH}(hi:ss[i]?=some s)(hj:ss[j]?=some t)(hij:i<j):s.st+c.aF<=t.st:=by
 obtain⟨b,rfl⟩:=cY.1 hi;obtain⟨a,rfl⟩:=cY.1 hj;exact my.1 h.uL i j b a hij
theorem dI.wT (h:dI c ss){i j:Nat}{s t:cH}{p:Nat}(hi:ss[i]?=some s)(hj:ss[j]?=some t)(h1:s.st<=p)(h2:p<s.st+c.aF)(h3:t.st<=p)(h4:p<t.st+c.aF):i=j:=by
 rcases qt i j with hl|hl|hl
 ·have:=h.tM hi hj hl;omega
 ·exact hl
 ·have:=h.tM hj hi hl;omega
theorem Ll (hp:0<c.size){s:cH}{i:Nat}(hi:i<c.n):s.st*256<=at_ c s i/\at_ c s i+c.size<=(s.st+c.aF)*256:=by
 have b:=cA.wx c;have a:(i+1)*c.size<=c.n*c.size:=mu _ hi;unfold at_;rw[zo]at a;omega
theorem GD (hp:0<c.size){s:cH}{i x:Nat}(hi:i<c.n)(h1:at_ c s i<=x)(h2:x<at_ c s i+c.size):s.st<=x/256/\x/256<s.st+c.aF:=by
 have:=Ll hp (s:=s) hi;omega
theorem UL (h:dI c ss){k l:Nat}{s t:cH}{i j x:Nat}(hk:ss[k]?=some s)(hl:ss[l]?=some t)(hi:i<c.n)(hj:j<c.n)(h1:at_ c s i<=x)(h2:x<at_ c s i+c.size)(h3:at_ c t j<=x)(h4:x<at_ c t j+c.size):k=l/\s=t/\i=j:=by
 have a:=GD h.pos hi h1 h2;have b:=GD h.pos hj h3 h4;have e:=h.wT hk hl a.1 a.2 b.1 b.2;subst e;rw[hk]at hl;cases hl;refine⟨rfl,rfl,?_⟩;unfold at_ at *;have d:=h.pos;rcases qt i j with hl|hl|hl
 ·have:(i+1)*c.size<=j*c.size:=mu _ hl;rw[zo]at this;omega
 ·exact hl
 ·have:(j+1)*c.size<=i*c.size:=mu _ hl;rw[zo]at this;omega
theorem D4 (h:dI c ss){s:cH}(hs:s∈ss){x:Int}{i:Nat}(hi:idx c s x=some i):i<c.n/\((s.st*256:Nat):Int)<=x/\x<(((s.st+c.aF)*256:Nat):Int)/\((at_ c s i:Nat):Int)<=x/\x<((at_ c s i+c.size:Nat):Int):=by
 obtain⟨d,b,a⟩:=(Uj h.pos).1 hi;rw[h.tk s hs]at a;have:=Ll h.pos (s:=s) a;have e:at_ c s (i+1)=at_ c s i+c.size:=by unfold at_;rw[zo];omega
 rw[e]at b;omega
theorem Lu (h:dI c ss){k:Nat}{s:cH}{x:Int}{i:Nat}(hs:ss[k]?=some s)(hi:idx c s x=some i):kU c ss x=some k:=by
 obtain⟨r,m⟩:=cY.1 hs;refine nE.2 ⟨r,by rw[m,hi];rfl,λj u p=>?_⟩;have d:j<ss.length:=by omega
 obtain⟨w,g⟩:=pw.1 p;have a:=D4 h (zG hs) hi;have b:=D4 h (kv d) g;have:=h.tM (cX d) hs u;omega
theorem Ik (h:dI c ss){x:Int}{b:Bool}:eH c ss x=some b↔∃(k:Nat) (s:cH) (i:Nat),ss[k]?=some s/\i<c.n/\x=((at_ c s i:Nat):Int)/\s.is i=b:=by
 constructor
 ·intro hx;obtain⟨k,s,i,_,a,g,j⟩:=AE hx;obtain⟨p,m⟩:=(U9 h.pos).1 g;rw[h.tk s (zG a)]at m;exact⟨k,s,i,a,m,p,j⟩
 ·rintro⟨k,s,i,a,hi,rfl,j⟩;have r:=h.tk s (zG a);have g:obj c s ((at_ c s i:Nat):Int)=some i:=(U9 h.pos).2 ⟨rfl,O⟩;have d:idx c s ((at_ c s i:Nat):Int)=some i:=(Uj h.pos).2 ⟨wY _,by have:=h.pos;unfold at_;rw[zo];omega,O⟩;rw[V8 (Lu h a d) a,g,←j];rfl
theorem V9 (h:dI c ss){x:Int}:Tk c ss x↔∃(k:Nat) (s:cH) (i:Nat),ss[k]?=some s/\i<c.n/\x=((at_ c s i:Nat):Int)/\s.is i=true:=Ik h
theorem Il (h:dI c ss){x:Int}{a:Nat}:rJ c ss x=some a↔∃(k:Nat) (s:cH) (i:Nat),ss[k]?=some s/\i<c.n/\a=at_ c s i/\((at_ c s i:Nat):Int)<=x/\x<((at_ c s i+c.size:Nat):Int):=by
 constructor
 ·intro hf;cases ho:kU c ss x with
  | none=>rw[Jh ho]at hf;cases hf
  | some k=>
   have g:=(nE.1 ho).1;have b:ss[k]?=some ss[k]:=cX g;rw[Gq ho b]at hf;obtain⟨i,hi,rfl⟩:=od.1 hf;have:=D4 h (zG b) hi;exact⟨k,_,i,b,this.1,rfl,this.2.2.2.1,this.2.2.2.2⟩
 ·rintro⟨k,s,i,b,hi,rfl,h1,h2⟩;have j:=h.tk s (zG b);have e:at_ c s (i+1)=at_ c s i+c.size:=by unfold at_;rw[zo];omega
  have d:idx c s x=some i:=(Uj h.pos).2 ⟨h1,by rw[e];exact h2,O⟩;rw[Gq (Lu h b d) b,d];rfl
theorem dI.put (h:dI c ss){k i:Nat}{s:cH}(hs:ss[k]?=some s)(v:Bool):dI c (ss.set k (s.put i v)):=by
 have r:=(cY.1 hs).1;refine⟨h.ok,λt p=>?_,?_⟩
 ·rcases AV p with p|rfl
  ·exact h.tk t p
  ·rw[show(s.put i v).tk.length=s.tk.length by simp[cH.put]];exact h.tk s (zG hs)
 ·rw[my];intro a b ha hb hab;have d:a<ss.length:=by simpa using ha
  have g:b<ss.length:=by simpa using hb
  have m:∀j (hj:j<(ss.set k (s.put i v)).length) (hj':j<ss.length),(ss.set k (s.put i v))[j].st=ss[j].st:=by
   intro j hj hj';rw[List.getElem_set];split
   ·rename_i e;subst e;have:ss[k]=s:=(cY.1 hs).2;rw[this];rfl
   ·rfl
  rw[m a ha d,m b hb g];exact my.1 h.uL a b d g hab
theorem EY {k i:Nat}{s:cH}(hs:ss[k]?=some s)(v:Bool):(ss.set k (s.put i v)).map (·.st)=ss.map (·.st):=by
 apply zt;intro j;simp only[za];by_cases hjk:j=k
 ·subst hjk;rw[zO (cY.1 hs).1,hs];rfl
 ·rw[zh (Ne.symm hjk)]
theorem BK {s:cH}{i j:Nat}{v:Bool}(hi:i<s.tk.length):(s.put i v).is j=if j=i then v else s.is j:=by
 unfold cH.is cH.put;simp only[zQ];by_cases hj:j=i
 ·subst hj;rw[zO hi,zC rfl];rfl
 ·rw[zh (Ne.symm hj),zB hj]
theorem IP (h:dI c ss){k i:Nat}{s:cH}(hs:ss[k]?=some s)(hi:i<c.n)(v:Bool){y:Int}:Tk c (ss.set k (s.put i v)) y↔(y=((at_ c s i:Nat):Int)/\v=true)\/(y≠((at_ c s i:Nat):Int)/\Tk c ss y):=by
 have b:=(cY.1 hs).1;have m:=h.tk s (zG hs);have g:=h.pos;rw[V9 (h.put hs v),V9 h];constructor
 ·rintro⟨l,t,j,ht,hj,rfl,hb⟩;by_cases hlk:l=k
  ·subst hlk;rw[zO b]at ht;cases ht;rw[BK O]at hb;by_cases a:j=i
   ·subst a;rw[zC rfl]at hb;exact .inl ⟨rfl,hb⟩
   ·rw[zB a]at hb;refine .inr ⟨λe=>a ?_,l,s,j,hs,hj,rfl,hb⟩;have d:at_ c s j=at_ c s i:=by have:=Int.ofNat.inj e;exact this
    exact(UL h hs hs hj hi (zD _) O O O).2.2
  ·rw[zh (Ne.symm hlk)]at ht;refine .inr ⟨λe=>hlk ?_,l,t,j,ht,hj,rfl,hb⟩;have d:at_ c t j=at_ c s i:=Int.ofNat.inj e;exact(UL h ht hs hj hi (zD _) O O O).1
 ·rintro(⟨rfl,rfl⟩|⟨hne,l,t,j,ht,hj,rfl,hb⟩)
  ·exact⟨k,s.put i true,i,zO b,hi,rfl,by rw[BK O,zC rfl]⟩
  ·by_cases hlk:l=k
   ·subst hlk;rw[hs]at ht;cases ht;have a:j≠i:=λe=>hne (by rw[e]);exact⟨l,s.put i v,j,zO b,hj,rfl,by rw[BK O,zB a];exact hb⟩
   ·exact⟨l,t,j,(zh (Ne.symm hlk)).trans ht,hj,rfl,hb⟩
theorem JJ {p:Nat}:wm c ss p↔∃x∈ss.map (·.st),x<=p/\p<x+c.aF:=by
 constructor
 ·rintro⟨s,a,h⟩;exact⟨_,zE.2 ⟨s,a,rfl⟩,h⟩
 ·rintro⟨x,hx,h⟩;obtain⟨s,a,rfl⟩:=zE.1 hx;exact⟨s,a,h⟩
theorem Oo {ss':List cH}(e:ss'.map (·.st)=ss.map (·.st)){p:Nat}:wm c ss' p↔wm c ss p:=by rw[JJ,JJ,e]
theorem MF (h:dI c ss){x:Nat}{ss':List cH}(ho:jj c ss=some (x,ss')):dI c ss'/\ss'.map (·.st)=ss.map (·.st)/\¬Tk c ss (x:Int)/\∀y,Tk c ss' y↔y=(x:Int)\/Tk c ss y:=by
 unfold jj at ho;split at ho
 ·rename_i k hk;obtain⟨_,s,g,u⟩:=Kl hk;rw[g]at ho;simp only at ho;split at ho
  ·rename_i i hi;cases ho;obtain⟨r,w,m,p⟩:=Ag u;rw[hi]at w;cases w;have j:i<c.n:=by rw[←h.tk s (zG g)];exact m
   have a:¬Tk c ss ((at_ c s i:Nat):Int):=λd=>by
    have z:=(Ik h (x:=((at_ c s i:Nat):Int)) (b:=false)).2 ⟨k,s,i,g,j,rfl,p⟩;unfold Tk at d;rw[z]at d;cases d
   refine⟨h.put g true,EY g true,a,λy=>?_⟩;rw[IP h g j];constructor
   ·rintro(⟨e,_⟩|⟨_,d⟩)
    ·exact .inl e
    ·exact .inr d
   ·rintro(e|d)
    ·exact .inl ⟨e,rfl⟩
    ·exact .inr ⟨λe=>a (e▸d),d⟩
  ·cases ho
 ·cases ho
theorem Gm:∀(m:Nat) {ss:List cH},dI c ss->dI c (KE c m ss).2/\(KE c m ss).2.map (·.st)=ss.map (·.st)/\(KE c m ss).1.length<=m/\(KE c m ss).1.Nodup/\(∀x∈(KE c m ss).1,¬Tk c ss (x:Int))/\∀y,Tk c (KE c m ss).2 y↔(∃x∈(KE c m ss).1,y=((x:Nat):Int))\/Tk c ss y
 | 0,ss,h=>⟨h,rfl,zD _,tz,by simp[KE],by simp[KE]⟩
 | m+1,ss,h=>by
  cases ho:jj c ss with
  | none=>
   have e:KE c (m+1) ss=([],ss):=by simp[KE,ho]
   rw[e];exact⟨h,rfl,by simp,tz,by simp,by simp⟩
  | some r=>
   obtain⟨x,g⟩:=r;rw[GO ho];obtain⟨w,s,i,a⟩:=MF h ho;obtain⟨d,j,B,p,b,u⟩:=Gm m w;refine⟨d,j.trans s,by simp;omega,zr.2 ⟨λz=>b x z ((a _).2 (.inl rfl)),p⟩,?_,λy=>?_⟩
   ·intro y hy;rcases zW.1 hy with rfl|hy
    ·exact i
    ·exact λA=>b y hy ((a _).2 (.inr A))
   ·rw[u,a];simp only[zW,exists_eq_or_imp];constructor
    ·rintro(h|h|h)
     ·exact .inl (.inr h)
     ·exact .inl (.inl h)
     ·exact .inr h
    ·rintro((h|h)|h)
     ·exact .inr (.inl h)
     ·exact .inl h
     ·exact .inr (.inr h)
theorem La:∀(xs:List Int) {ss:List cH},dI c ss->kG c ss xs->dI c (xs.foldl (fJ c) ss)/\(xs.foldl (fJ c) ss).map (·.st)=ss.map (·.st)/\∀y,Tk c (xs.foldl (fJ c) ss) y↔Tk c ss y/\y∉xs
 | [],ss,h,_=>⟨h,rfl,by simp⟩
 | x::xs,ss,h,hA=>by
  have hx:=hA.1 x aA;obtain⟨k,s,i,u,b,j,_⟩:=AE hx;obtain⟨d,a⟩:=(U9 h.pos).1 j;rw[h.tk s (zG b)]at a;have e:=Az u b j;have m:=h.put b false (i:=i);have g:=hA.next h.pos;obtain⟨r,w,p⟩:=La xs (ss:=fJ c ss x) (by rw[e];exact m) g;rw[r7];refine⟨r,w.trans (by rw[e];exact EY b false),λy=>?_⟩;rw[p,e,IP h b a,←d];simp only[zZ,and_false,false_or,zW,not_or];constructor
  ·rintro⟨⟨d,a⟩,h3⟩;exact⟨a,d,h3⟩
  ·rintro⟨a,d,h3⟩;exact⟨⟨d,a⟩,h3⟩
theorem Jv {s:cH}(h0:s.many=0)(i:Nat):s.is i=false:=by
 unfold cH.many at h0;rw[As]at h0;unfold cH.is;rw[zQ];cases hi:s.tk[i]? with
 | none=>rfl
 | some b=>
  cases b
  ·rfl
  ·exact absurd (zG hi) h0
theorem dI.cK (h:dI c ss):dI c (Go.Ar.cK ss):=⟨h.ok,λs a=>h.tk s (zL.1 a).1,h.uL.filter _⟩
theorem FC (h:dI c ss){y:Int}:Tk c (cK ss) y↔Tk c ss y:=by
 rw[V9 h.cK,V9 h];constructor
 ·rintro⟨k,s,i,hs,hi,rfl,hb⟩;obtain⟨l,a⟩:=zP (zL.1 (zG hs)).1;exact⟨l,s,i,a,hi,rfl,hb⟩
 ·rintro⟨k,s,i,hs,hi,rfl,hb⟩;have:s∈cK ss:=zL.2 ⟨zG hs,by
   have:s.many≠0:=λb=>by rw[Jv b i]at hb;cases hb
   simpa using this⟩
  obtain⟨l,a⟩:=zP this;exact⟨l,s,i,a,hi,rfl,hb⟩
theorem C5 {x:Nat}:x∈QT ss↔∃s∈ss,s.many=0/\s.st=x:=by
 unfold QT;simp only[zE,zL,zT,and_assoc]
theorem LA (h:dI c ss){p:Nat}:wm c (cK ss) p↔wm c ss p/\¬∃x∈QT ss,x<=p/\p<x+c.aF:=by
 constructor
 ·rintro⟨s,hs,h1,h2⟩;have b:=zL.1 hs;refine⟨⟨s,b.1,h1,h2⟩,?_⟩;rintro⟨x,hx,h3,h4⟩;obtain⟨t,g,a,rfl⟩:=C5.1 hx;obtain⟨i,hi⟩:=zP b.1;obtain⟨j,d⟩:=zP g;have e:=h.wT hi d h1 h2 h3 h4;subst e;rw[hi]at d;cases d;simp[a]at b
 ·rintro⟨⟨s,hs,h1,h2⟩,hn⟩;refine⟨s,zL.2 ⟨hs,?_⟩,h1,h2⟩;have:s.many≠0:=λa=>hn ⟨s.st,C5.2 ⟨s,hs,a,rfl⟩,h1,h2⟩;simpa using this
theorem χ (h:dI c ss):(QT ss).Pairwise λa b=>a+c.aF<=b:=by
 unfold QT;rw[sv];exact h.uL.filter _
theorem VU {st:Nat}{t:cH}:t∈ir c ss st↔t=⟨st,List.replicate c.n false⟩\/t∈ss:=by
 unfold ir;rw[zM,zW];have:t∈ss↔t∈ss.takeWhile (λs=>decide (s.st<st))\/t∈ss.dropWhile (λs=>decide (s.st<st)):=by
  rw[←zM,List.takeWhile_append_dropWhile]
 rw[this];constructor
 ·rintro(h|h|h)
  ·exact .inr (.inl h)
  ·exact .inl h
  ·exact .inr (.inr h)
 ·rintro(h|h|h)
  ·exact .inr (.inl h)
  ·exact .inl h
  ·exact .inr (.inr h)
theorem Lc (h:dI c ss){st:Nat}(hd:∀s∈ss,s.st+c.aF<=st\/st+c.aF<=s.st):dI c (ir c ss st):=by
 refine⟨h.ok,λs m=>?_,?_⟩
 ·rcases VU.1 m with rfl|m
  ·simp
  ·exact h.tk s m
 ·have g:=GM h.q9 st;have u:=h.pg;rw[yf];refine qE.2 ⟨h.uL.sublist (Du _ _),sR.2 ⟨λb d=>?_,h.uL.sublist (List.drop_sublist _ _)⟩,λa r b d=>?_⟩
  ·obtain⟨i,hi⟩:=zP d;rw[lG]at hi;have:=g.2 _ _ hi;rcases hd b (uH d)with h1|h1
   ·omega
   ·exact h1
  ·obtain⟨i,hi⟩:=zP r;rw[zl]at hi;split at hi
   ·rename_i hlt;rcases zW.1 d with rfl|d
    ·have:=(g.2 _ _ hi).2 hlt;rcases hd a (zG hi)with h1|h1
     ·exact h1
     ·omega
    ·obtain⟨j,p⟩:=zP d;rw[lG]at p;exact h.tM hi p O
   ·cases hi
theorem Lm (h:dI c ss){st:Nat}(hd:∀s∈ss,s.st+c.aF<=st\/st+c.aF<=s.st){y:Int}:Tk c (ir c ss st) y↔Tk c ss y:=by
 rw[V9 (Lc h hd),V9 h];constructor
 ·rintro⟨k,s,i,hs,hi,rfl,hb⟩;rcases VU.1 (zG hs)with rfl|hm
  ·have:(⟨st,List.replicate c.n false⟩:cH).is i=false:=Jv (by simp[cH.many,AW]) i;rw[this]at hb;cases hb
  ·obtain⟨l,a⟩:=zP hm;exact⟨l,s,i,a,hi,rfl,hb⟩
 ·rintro⟨k,s,i,hs,hi,rfl,hb⟩;obtain⟨l,a⟩:=zP (VU.2 (.inr (zG hs)):s∈ir c ss st);exact⟨l,s,i,a,hi,rfl,hb⟩
theorem LY {st:Nat}(hd:∀s∈ss,s.st+c.aF<=st\/st+c.aF<=s.st):G3 c ss st=0:=by
 unfold G3;rw[zB];simp only[zy,zV,not_exists,not_and];intro s hs hlt;rcases hd s hs with h|h<;>omega
end Go.Ar
namespace Go.Ar
open Go.Bu (Zx Kf Zv qA VK dG take KK Vk Bounded)
def gf (st:List Nat)(p:Nat):Nat:=st.getD p 0
def AR.f (A:AR)(p:Nat):Nat:=gf A.st p
def mY (rs:List (Nat×Nat))(p:Nat):Prop:=∃r∈rs,r.1<=p/\p<r.1+r.2
theorem Jw {st:List Nat}{p:Nat}(h:gf st p≠0):p<st.length:=by
 apply Classical.byContradiction;intro hn;exact h (by unfold gf;rw[zQ,zX O];rfl)
theorem vT {st:List Nat}{a b v p:Nat}(hb:b<=st.length):gf (gF st a b v) p=if a<=p/\p<b then v else gf st p:=by
 unfold gf;rw[zQ,zQ,HX];by_cases hp:p<st.length
 ·rw[cX hp];simp only[ze,qn]
 ·rw[zX O,zB O];rfl
theorem UF {n a m:Nat}:Zx n (a:Int) (m:Int)=true↔1<=m/\a+m<=n:=by
 simp only[Zx,zF,zV];omega
theorem TO {st:List Nat}{a m:Nat}{fr:List Nat}(hl:a+m<=st.length):vu st a m fr=true↔∀p,a<=p->p<a+m->gf st p∈fr:=by
 unfold vu;rw[kx];constructor
 ·intro h p h1 h2;have b:p<st.length:=by omega
  have:st[p]∈(st.drop a).take m:=by
   refine zG (i:=p-a) ?_;rw[zl,zC O,lG,show a+(p-a)=p by omega,cX b]
  have:=h _ this;unfold gf;rw[zQ,cX b];simpa using this
 ·intro h x hx;obtain⟨i,hi⟩:=zP hx;rw[zl]at hi;split at hi
  ·rename_i hlt;rw[lG]at hi;have:=h (a+i) O O;unfold gf at this;rw[zQ,hi]at this;simpa using this
  ·cases hi
theorem Jk {st:List Nat}{a m v:Nat}{fr:List Nat}(h1:1<=m)(hl:a+m<=st.length)(h:∀p,a<=p->p<a+m->gf st p∈fr):UE st (a:Int) (m:Int) v fr=gF st a (a+m) v:=by
 unfold UE pO;rw[zC (UF.2 ⟨h1,hl⟩),dH,dH,(TO hl).2 h];rfl
structure PG (A:AR):Prop where
 len:A.st.length=A.n
 n1:32<=A.n
 n2:A.n<=1024
 n16:A.n%16=0
 le:∀p,A.f p<=3
 us:∀p,A.f p=1↔A.ow p≠0
 fr:∀p,A.S p=true↔2<=A.f p
 hp:∀p,A.f p=0↔A.f (p/16*16)=0
theorem PG.lt {A:AR}(h:PG A){p:Nat}(hp:A.f p≠0):p<A.n:=h.len▸Jw hp
theorem PG.jD {A:AR}(h:PG A):Bounded A.S A.n:=λp a=>h.lt (by have:=(h.fr p).1 a;omega)
theorem PG.kB {A:AR}(h:PG A){p q:Nat}(e:p/16=q/16):A.f p=0↔A.f q=0:=by rw[h.hp p,h.hp q,e]
theorem PG.same {A B:AR}(h:PG A)(e1:B.n=A.n)(e2:B.st=A.st)(e3:B.S=A.S)(e4:B.ow=A.ow):PG B:=by
 have a:∀p,B.f p=A.f p:=λp=>by unfold AR.f;rw[e2]
 exact⟨by rw[e2,e1];exact h.len,by rw[e1];exact h.n1,by rw[e1];exact h.n2,by rw[e1];exact h.n16,λp=>by rw[a];exact h.le p,λp=>by rw[a,e4];exact h.us p,λp=>by rw[a,e3];exact h.fr p,λp=>by rw[a,a];exact h.hp p⟩
theorem Fh {ow:Nat->Nat}{a m no:Nat}(h1:1<=m)(h2:a+m<=1024)(p:Nat):jO ow a m no p=if a<=p/\p<a+m then no else ow p:=by
 unfold jO;rw[zC (UF.2 ⟨h1,h2⟩)]
theorem FP {n:Nat}{S:Nat->Bool}{a m:Nat}(h1:1<=m)(h2:a+m<=n)(h:∀p,a<=p->p<a+m->S p=false):Kf n S (a:Int) (m:Int)=dG S a (a+m):=by
 unfold Kf;rw[UF.2 ⟨h1,h2⟩,dH,dH,VK.2 h];rfl
structure Out (A B:AR) (a b:Nat):Prop where
 n:B.n=A.n
 len:B.st.length=A.st.length
 f:∀p,¬(a<=p/\p<b)->B.f p=A.f p
 ow:∀p,¬(a<=p/\p<b)->B.ow p=A.ow p
 S:∀p,¬(a<=p/\p<b)->B.S p=A.S p
theorem Out.pg {A B:AR}{a b v:Nat}(o:Out A B a b)(h:PG A)(hv:v<=3)(hf:∀p,a<=p->p<b->B.f p=v)(hw:∀p,a<=p->p<b->(v=1↔B.ow p≠0))(hS:∀p,a<=p->p<b->(B.S p=true↔2<=v))
 (hz:∀p,B.f p=0↔B.f (p/16*16)=0):PG B:=by
 refine⟨by rw[o.len,o.n];exact h.len,by rw[o.n];exact h.n1,by rw[o.n];exact h.n2,by rw[o.n];exact h.n16,λp=>?_,λp=>?_,λp=>?_,hz⟩
 ·by_cases hp:a<=p/\p<b
  ·rw[hf p hp.1 hp.2];exact hv
  ·rw[o.f p hp];exact h.le p
 ·by_cases hp:a<=p/\p<b
  ·rw[hf p hp.1 hp.2];exact hw p hp.1 hp.2
  ·rw[o.f p hp,o.ow p hp];exact h.us p
 ·by_cases hp:a<=p/\p<b
  ·rw[hf p hp.1 hp.2];exact hS p hp.1 hp.2
  ·rw[o.f p hp,o.S p hp];exact h.fr p
theorem Out.zero {A B:AR}{a b v:Nat}(o:Out A B a b)(h:PG A)(hf:∀p,a<=p->p<b->B.f p=v)(hv:v≠0)(hA:∀p,a<=p->p<b->A.f p≠0):∀p,B.f p=0↔A.f p=0:=by
 intro p;by_cases hp:a<=p/\p<b
 ·rw[hf p hp.1 hp.2];exact⟨λe=>(hv e).elim,λe=>(hA p hp.1 hp.2 e).elim⟩
 ·rw[o.f p hp]
theorem Fi {A B:AR}(h:PG A)(e:∀p,B.f p=0↔A.f p=0):∀p,B.f p=0↔B.f (p/16*16)=0:=λp=>by rw[e,e];exact h.hp p
theorem JS {A:AR}(h:PG A){a m:Nat}(h1:1<=m)(hu:∀p,a<=p->p<a+m->A.f p=1):Out A (Us A (a,m)) a (a+m)/\(∀p,a<=p->p<a+m->(Us A (a,m)).f p=2/\(Us A (a,m)).ow p=0)/\PG (Us A (a,m))/\∀p,(Us A (a,m)).f p=0↔A.f p=0:=by
 have j:a+m<=A.n:=by have:=h.lt (p:=a+m-1) (by rw[hu _ O O];omega);omega
 have x:=h.n2;have e1:(Us A (a,m)).st=gF A.st a (a+m) 2:=Jk h1 (by rw[h.len];exact j) λp d b=>by
  have:=hu p d b;unfold AR.f at this;rw[this];simp
 have e2:(Us A (a,m)).S=dG A.S a (a+m):=FP h1 j λp d b=>by
  apply nY.2;intro hS;have:=(h.fr p).1 hS;have:=hu p d b;omega
 have w:∀p,(Us A (a,m)).ow p=if a<=p/\p<a+m then 0 else A.ow p:=λp=>Fh h1 O p
 have s:∀p,(Us A (a,m)).f p=if a<=p/\p<a+m then 2 else A.f p:=λp=>by unfold AR.f;rw[e1,vT (by rw[h.len];exact j)]
 have o:Out A (Us A (a,m)) a (a+m):=⟨rfl,by rw[e1,Vl],λp g=>by rw[s,zB g],λp g=>by rw[w,zB g],λp g=>by
  rw[e2];unfold dG;have:(decide (a<=p)&&decide (p<a+m))=false:=by simp;omega
  rw[this,Bool.or_false]⟩
 have i:∀p,a<=p->p<a+m->(Us A (a,m)).f p=2:=λp d b=>by rw[s,zC ⟨d,b⟩]
 have r:∀p,a<=p->p<a+m->(Us A (a,m)).ow p=0:=λp d b=>by rw[w,zC ⟨d,b⟩]
 have u:=o.zero h i O λp d b=>by rw[hu p d b];omega
 refine⟨o,λp d b=>⟨i p d b,r p d b⟩,o.pg h O i (λp d b=>by rw[r p d b];simp) (λp d b=>?_) (Fi h u),u⟩;rw[e2,KK];exact⟨λ_=>zD _,λ_=>.inr ⟨d,b⟩⟩
structure sX (A B:AR) (rs:List (Nat×Nat)):Prop where
 pg:PG B
 n:B.n=A.n
 tb:B.tb=A.tb
 room:B.room=A.room
 cR:B.cR=A.cR
 cG:B.cG=A.cG
 runs:B.runs=A.runs
 i:∀p,mY rs p->B.f p=2/\B.ow p=0
 o:∀p,¬mY rs p->B.f p=A.f p/\B.ow p=A.ow p
 z:∀p,B.f p=0↔A.f p=0
theorem Em:∀(rs:List (Nat×Nat)) {A:AR},PG A->(∀r∈rs,1<=r.2)->(∀r∈rs,∀p,r.1<=p->p<r.1+r.2->A.f p=1)->rs.Pairwise (λa b=>a.1+a.2<=b.1\/b.1+b.2<=a.1)->sX A (UB A rs) rs
 | [],A,h,_,_,_=>⟨h,rfl,rfl,rfl,rfl,rfl,rfl,λp ⟨r,hr,_⟩=>by simp at hr,λp _=>⟨rfl,rfl⟩,λp=>Iff.rfl⟩
 | (a,m)::rs,A,h,hp,hu,hd=>by
  have hd':=sR.1 hd;obtain⟨o,hi,w,B⟩:=JS h (hp _ (mD ..)) (hu _ (mD ..));have d:=Em rs w (λr hr=>hp r (mg _ hr)) (λr hr p u s=>by
   have:=hd'.1 r hr;simp only at this;rw[o.f p O];exact hu r (mg _ hr) p u s) hd'.2
  have e:UB A ((a,m)::rs)=UB (Us A (a,m)) rs:=rfl;rw[e];refine⟨d.pg,d.n,d.tb,d.room,d.cR,d.cG,d.runs,λp g=>?_,λp g=>?_,λp=>(d.z p).trans (B p)⟩
  ·by_cases j:mY rs p
   ·exact d.i p j
   ·have:=d.o p j;obtain⟨r,hr,u,s⟩:=g;rcases zW.1 hr with rfl|hr
    ·rw[this.1,this.2];exact hi p u s
    ·exact(j ⟨r,hr,u,s⟩).elim
  ·have j:¬mY rs p:=λ⟨r,hr,x⟩=>g ⟨r,mg _ hr,x⟩;have y:¬(a<=p/\p<a+m):=λx=>g ⟨(a,m),mD ..,x⟩;have:=d.o p j;exact⟨this.1.trans (o.f p y),this.2.trans (o.ow p y)⟩
theorem DR {A:AR}(h:PG A){a m no:Nat}(h1:1<=m)(hn:no≠0)(hS:∀p,a<=p->p<a+m->A.S p=true):Out A (dS A a m no) a (a+m)/\(∀p,a<=p->p<a+m->(dS A a m no).f p=1/\(dS A a m no).ow p=no)/\PG (dS A a m no)/\∀p,(dS A a m no).f p=0↔A.f p=0:=by
 have j:∀p,a<=p->p<a+m->2<=A.f p:=λp d b=>(h.fr p).1 (hS p d b);have w:a+m<=A.n:=by have:=h.lt (p:=a+m-1) (by have:=j (a+m-1) O O;omega);omega
 have y:=h.n2;have e1:(dS A a m no).st=gF A.st a (a+m) 1:=Jk h1 (by rw[h.len];exact w) λp d b=>by
  have z:=j p d b;have B:=h.le p;unfold AR.f at z B;have:gf A.st p=2\/gf A.st p=3:=by omega
  simpa using this
 have x:∀p,(dS A a m no).ow p=if a<=p/\p<a+m then no else A.ow p:=λp=>Fh h1 O p
 have s:∀p,(dS A a m no).f p=if a<=p/\p<a+m then 1 else A.f p:=λp=>by unfold AR.f;rw[e1,vT (by rw[h.len];exact w)]
 have o:Out A (dS A a m no) a (a+m):=⟨rfl,by rw[e1,Vl],λp g=>by rw[s,zB g],λp g=>by rw[x,zB g],λp g=>by
  show take A.S a (a+m) p=A.S p;unfold take;have:(decide (a<=p)&&decide (p<a+m))=false:=by simp;omega
  rw[this];simp⟩
 have i:∀p,a<=p->p<a+m->(dS A a m no).f p=1:=λp d b=>by rw[s,zC ⟨d,b⟩]
 have r:∀p,a<=p->p<a+m->(dS A a m no).ow p=no:=λp d b=>by rw[x,zC ⟨d,b⟩]
 have u:=o.zero h i O λp d b=>by have:=j p d b;omega
 refine⟨o,λp d b=>⟨i p d b,r p d b⟩,o.pg h O i (λp d b=>by rw[r p d b];simp[hn]) (λp d b=>?_) (Fi h u),u⟩;show take A.S a (a+m) p=true↔_;rw[Vk];constructor
 ·rintro⟨_,hx⟩;exact(hx ⟨d,b⟩).elim
 ·intro hx;omega
theorem EJ:∀(m:Nat) {st:List Nat} {a:Nat},(a+m)*16<=st.length->(∀p,a*16<=p->p<(a+m)*16->gf st p=0)->(Hc st a m).length=st.length/\∀p,gf (Hc st a m) p=if a*16<=p/\p<(a+m)*16 then 3 else gf st p
 | 0,st,a,hl,hz=>⟨rfl,λp=>by rw[zB O];rfl⟩
 | m+1,st,a,hl,hz=>by
  obtain⟨i1,i2⟩:=EJ m (st:=st) (a:=a) O λp d g=>hz p d O;rw[Iz];have b:gf (Hc st a m) (16*(a+m))=0:=by rw[i2,zB O];exact hz _ O O
  have ok:kI (Hc st a m) ((a+m:Nat):Int)=0:=by
   unfold kI;rw[IZ (by rw[i1];omega),zC rfl,dH];unfold gf at b;rw[zC b]
  have e:je (Hc st a m) ((a+m:Nat):Int)=gF (Hc st a m) (16*(a+m)) (16*(a+m)+16) 3:=by
   unfold je;rw[zC ok,dH]
  rw[e];refine⟨by rw[Vl,i1],λp=>?_⟩;rw[vT (by rw[i1];omega),i2];by_cases h1:16*(a+m)<=p/\p<16*(a+m)+16
  ·rw[zC h1,zC O]
  ·rw[zB h1];by_cases h2:a*16<=p/\p<(a+m)*16
   ·rw[zC h2,zC O]
   ·rw[zB h2,zB O]
theorem Dt {sp:Sp}{s m:Nat}(h:fE sp (s:Int) (m:Int)=0):1<=m/\s+m<=sp.st.length/\∀p,s<=p->p<s+m->gf sp.st p=0:=by
 unfold fE at h;split at h
 ·rename_i hr;obtain⟨d,b⟩:=UF.1 hr;rw[dH,dH]at h;split at h
  ·cases h
  ·rename_i hn;refine⟨d,b,λp r j=>?_⟩;have a:p<sp.st.length:=by omega
   have g:sp.st[p]∈(sp.st.drop s).take m:=by
    refine zG (i:=p-s) ?_;rw[zl,zC O,lG,show s+(p-s)=p by omega,cX a]
   simp only[zy,not_exists,not_and]at hn;have:=hn _ g;unfold gf;rw[zQ,cX a];simpa using this
 ·cases h
structure Grown (A B:AR) (sp sp':Sp) (s size:Nat):Prop where
 pg:PG B
 n:B.n=A.n
 tb:B.tb=A.tb
 room:B.room=A.room
 cR:B.cR=A.cR
 cG:B.cG=A.cG
 runs:B.runs=A.runs
 ow:B.ow=A.ow
 S6:s%16=0
 s1:16<=s
 sl:s+size<=A.n
 un:∀p,s<=p->p<s+size->gf sp.st p=0
 i:∀p,s<=p->p<s+size->B.f p=3/\gf sp'.st p=1
 o:∀p,¬(s<=p/\p<s+size)->B.f p=A.f p/\gf sp'.st p=gf sp.st p
 w:∀x,¬(s*32<=x/\x<(s+size)*32)->sp'.wd x=sp.wd x
 l:sp'.st.length=sp.st.length
 pk:sp'.pk=sp.pk
theorem Hh {sp:Sp}{size s:Nat}(h1:1<=size)(h:dB sp size=some s):fE sp (s:Int) (size:Int)=0/\s≠0/\(∃j,s=j*size)/\∀j,j*size<s->1<=j->fE sp ((j*size:Nat):Int) (size:Int)≠0:=by
 unfold dB at h;obtain⟨u,us,vs,w,z⟩:=List.find?_eq_some_iff_append.1 h;simp only[zF,bne_iff_ne,ne_eq,zT]at u;have m:s∈(List.range (sp.st.length/size)).map (· * size):=by rw[w];simp
 obtain⟨j,A,rfl⟩:=zE.1 m;rw[zg]at A;refine⟨u.2,u.1,⟨j,rfl⟩,λi hi x=>?_⟩;have y:i<j:=Nat.lt_of_mul_lt_mul_right hi;have:i*size∈us:=by
  have g:i*size∈(List.range (sp.st.length/size)).map (· * size):=zE.2 ⟨i,zg.2 O,rfl⟩;have d:((List.range (sp.st.length/size)).map (· * size)).Pairwise (· < ·):=by
   rw[sv];exact List.pairwise_lt_range.imp λ{a b} p=>Nat.mul_lt_mul_of_pos_right p O
  rw[w]at g d;rcases zM.1 g with h|h
  ·exact h
  ·rcases zW.1 h with h|h
   ·have:=xS O h;omega
   ·have:=(sR.1 (qE.1 d).2.1).1 _ h;omega
 have:=z _ this;have r:i*size≠0:=by
  have:=Nat.mul_pos (show 0<i by omega) (show 0<size by omega);omega
 simpa[r]using this
theorem E6 {sp:Sp}{s m:Nat}(h:fE sp (s:Int) (m:Int)=0):(gA sp (s:Int) (m:Int)).st.length=sp.st.length/\(∀p,gf (gA sp (s:Int) (m:Int)).st p=if s<=p/\p<s+m then 1 else gf sp.st p)/\(∀x,¬(s*32<=x/\x<(s+m)*32)->(gA sp (s:Int) (m:Int)).wd x=sp.wd x)/\(gA sp (s:Int) (m:Int)).pk=sp.pk:=by
 obtain⟨d,a,_⟩:=Dt h;unfold gA;rw[zC h,dH,dH];refine⟨by simp[Sp.set,Vl],λp=>vT a,λx b=>?_,rfl⟩;show(if s*32<=x/\x<(s+m)*32 then 0 else sp.wd x)=_
 rw[zB b]
theorem RU {A:AR}{sp:Sp}(h:PG A)(hl:sp.st.length=A.n)(hz:∀p,gf sp.st p=0->A.f p=0){size:Nat}(hs:size=16\/size=32\/size=64){B:AR}{sp':Sp}(hg:Hg A sp size=some (B,sp')) :
 ∃s,dB sp size=some s/\Grown A B sp sp' s size:=by
 unfold Hg at hg;split at hg
 ·cases hg
 ·rename_i s hgs;cases hg;obtain⟨D,E,⟨j,K⟩,_⟩:=Hh O hgs;obtain⟨J,w,x⟩:=Dt D;have r:s%16=0:=by rcases hs with rfl|rfl|rfl<;>omega
  have C:size%16=0:=by rcases hs with rfl|rfl|rfl<;>omega
  have e1:s/16*16=s:=by omega
  have e2:(s/16+size/16)*16=s+size:=by omega
  have g:∀p,s<=p->p<s+size->A.f p=0:=λp d b=>hz p (x p d b);obtain⟨F,i⟩:=EJ (size/16) (st:=A.st) (a:=s/16) (by rw[e2,h.len,←hl];exact w) (by rw[e1,e2];exact g);rw[e1,e2]at i;obtain⟨H,y,G,b4⟩:=E6 D;have m:s+size<=A.n:=by rw[←hl];exact w
  have z:Kf A.n A.S (s:Int) (size:Int)=dG A.S s (s+size):=FP J m λp d b=>by
   apply nY.2;intro hS;have:=(h.fr p).1 hS;have:=g p d b;omega
  refine⟨s,hgs,⟨?_,rfl,rfl,rfl,rfl,rfl,rfl,rfl,r,O,m,x,λp d b=>⟨?_,?_⟩,λp hp=>⟨?_,?_⟩,G,H,b4⟩⟩
  ·have o:Out A {A with st:=Hc A.st (s/16) (size/16),S:=Kf A.n A.S (s:Int) (size:Int)} s (s+size):=⟨rfl,F,λp hp=>by show gf _ p=_;rw[i,zB hp];rfl,λp hp=>rfl,λp hp=>by
    show Kf A.n A.S (s:Int) (size:Int) p=A.S p;rw[z];unfold dG;have:(decide (s<=p)&&decide (p<s+size))=false:=by simp;omega
    rw[this,Bool.or_false]⟩
   have u:∀p,s<=p->p<s+size->AR.f {A with st:=Hc A.st (s/16) (size/16),S:=Kf A.n A.S (s:Int) (size:Int)} p=3:=λp d b=>by show gf _ p=3;rw[i,zC ⟨d,b⟩]
   refine o.pg h (zD _) u (λp d b=>?_) (λp d b=>?_) λp=>?_
   ·have E:=g p d b;have:=h.us p;constructor
    ·intro hx;omega
    ·intro hx;have:=this.2 hx;omega
   ·show Kf A.n A.S (s:Int) (size:Int) p=true↔_;rw[z,KK];exact⟨λ_=>O,λ_=>.inr ⟨d,b⟩⟩
   ·by_cases hp:s<=p/\p<s+size
    ·rw[u p hp.1 hp.2,u (p/16*16) O O]
    ·rw[o.f p hp,o.f (p/16*16) O];exact h.hp p
  ·show gf (Hc A.st (s/16) (size/16)) p=3;rw[i,zC ⟨d,b⟩]
  ·rw[y,zC ⟨d,b⟩]
  ·show gf (Hc A.st (s/16) (size/16)) p=A.f p;rw[i,zB hp];rfl
  ·rw[y,zB hp]
end Go.Ar
namespace Go.Ar
open Go.Bu (Zx Kf Zv qA VK dG take KK Vk Bounded full can YP U4 ZV Kh Z5 W9 Kn QD)
def Cl (A:AR)(k:Nat)(c:cA)(ss:List cH):Prop:=A.tb[k]?=some c/\A.cG[k]?=some ss
def fU (A:AR)(k:Nat)(x:Int):Prop:=∃c ss,Cl A k c ss/\Tk c ss x
def ic (A:AR)(k:Nat)(x:Int):Prop:=∃t,A.cR[k]?=some t/\x∈t.bs.flatten
structure GA (A:AR):Prop where
 pg:PG A
 tb:A.tb.length<=40
 lc:A.cG.length=A.tb.length
 lt:A.cR.length=A.tb.length
 cG:∀k c ss,Cl A k c ss->dI c ss
 one:∀k c ss,Cl A k c ss->∀s∈ss,s.st/16=(s.st+c.aF-1)/16
 ow:∀k c ss,Cl A k c ss->∀p,A.ow p=k+1↔wm c ss p
 j4:∀p,A.ow p=41↔mY A.runs p
 tf:∀p,A.ow p=41\/A.ow p<=A.tb.length
 hO:∀r∈A.runs,1<=r.2
 kC:A.runs.Pairwise λa b=>a.1+a.2<=b.1\/b.1+b.2<=a.1
 qD:∀(k:Nat) (t:gQ),A.cR[k]?=some t->t.bs.flatten.Nodup
 mq:∀(k:Nat) c ss (t:gQ),Cl A k c ss->A.cR[k]?=some t->∀x∈t.bs.flatten,Tk c ss x
 oK:∀(k:Nat) (c:cA) (t:gQ),A.tb[k]?=some c->A.cR[k]?=some t->∀xs∈t.bs,xs.length=c.batch
structure Kp (A B:AR):Prop where
 n:B.n=A.n
 tb:B.tb=A.tb
 room:B.room=A.room
 z:∀p,B.f p=0↔A.f p=0
 t:∀p,B.f p=3->A.f p=3
theorem Kp.refl (A:AR):Kp A A:=⟨rfl,rfl,rfl,λ_=>Iff.rfl,λ_=>id⟩
theorem Kp.trans {A B C:AR}(h:Kp A B)(k:Kp B C):Kp A C:=⟨k.n.trans h.n,k.tb.trans h.tb,k.room.trans h.room,λp=>(k.z p).trans (h.z p),λp a=>h.t p (k.t p a)⟩
theorem Kp.aF {A B:AR}(e1:B.n=A.n)(e2:B.tb=A.tb)(e3:B.room=A.room)(e4:B.st=A.st):Kp A B:=⟨e1,e2,e3,λp=>by unfold AR.f;rw[e4],λp=>by unfold AR.f;rw[e4];exact id⟩
variable {A:AR}{k:Nat}{c:cA}{ss:List cH}
theorem Cl.lt (h:Cl A k c ss):k<A.tb.length:=(cY.1 h.1).1
theorem Cl.eq {c':cA}{ss':List cH}(h:Cl A k c ss)(h':Cl A k c' ss'):c=c'/\ss=ss':=⟨Option.some.inj (h.1.symm.trans h'.1),Option.some.inj (h.2.symm.trans h'.2)⟩
theorem GA.cl (h:GA A){k:Nat}(hk:k<A.tb.length):∃c ss t,Cl A k c ss/\A.cR[k]?=some t:=by
 have b:=h.lc;have a:=h.lt;exact⟨A.tb[k],A.cG[k],A.cR[k],⟨by simp,by simp⟩,by simp⟩
theorem GA.used (h:GA A)(hk:Cl A k c ss){s:cH}(hs:s∈ss){p:Nat}(h1:s.st<=p)(h2:p<s.st+c.aF):A.f p=1/\A.ow p=k+1:=by
 have:=(h.ow k c ss hk p).2 ⟨s,hs,h1,h2⟩;exact⟨(h.pg.us p).2 O,this⟩
theorem GA.jG (h:GA A){r:Nat×Nat}(hr:r∈A.runs){p:Nat}(h1:r.1<=p)(h2:p<r.1+r.2):A.f p=1/\A.ow p=41:=by
 have:=(h.j4 p).2 ⟨r,hr,h1,h2⟩;exact⟨(h.pg.us p).2 O,this⟩
theorem GA.gU (h:GA A){r s:Nat×Nat}(hr:r∈A.runs)(hs:s∈A.runs){x:Nat}(h1:r.1<=x)(h2:x<r.1+r.2)(h3:s.1<=x)(h4:x<s.1+s.2):r=s:=by
 obtain⟨i,hi⟩:=zP hr;obtain⟨j,d⟩:=zP hs;obtain⟨b,rfl⟩:=cY.1 hi;obtain⟨a,rfl⟩:=cY.1 d;rcases qt i j with hl|hl|hl
 ·have:=my.1 h.kC i j b a hl;omega
 ·subst hl;rfl
 ·have:=my.1 h.kC j i a b hl;omega
theorem GA.fit (h:GA A){r:Nat×Nat}(hr:r∈A.runs):r.1+r.2<=A.n:=by
 have:=h.hO r hr;have:=h.pg.lt (p:=r.1+r.2-1) (by rw[(h.jG hr (p:=r.1+r.2-1) O O).1];omega);omega
theorem GA.pq (h:GA A):iQ A:=by
 have w:=h.pg.n2;refine⟨λr b s p x g d j i=>h.gU b p g d j i,λx m a=>?_,λx m u a=>?_,λr b=>?_⟩
 ·obtain⟨r,b,g,d⟩:=(h.j4 x).1 a;unfold sA;rw[CP];exact⟨r,b,by simp[g,d]⟩
 ·rcases h.tf x with e|e
  ·exact(a e).elim
  ·exact e
 ·have:=h.fit b;omega
theorem UN (hk:Cl A k c ss){ss':List cH}{j:Nat}{d:cA}{tt:List cH}(h:Cl {A with cG:=A.cG.set k ss'} j d tt):(j=k/\d=c/\tt=ss')\/(j≠k/\Cl A j d tt):=by
 obtain⟨b,a⟩:=h;by_cases hjk:j=k
 ·subst hjk;have g:=(cY.1 hk.2).1;simp only[zO g]at a;exact .inl ⟨rfl,Option.some.inj (b.symm.trans hk.1),(Option.some.inj a).symm⟩
 ·simp only[zh (Ne.symm hjk)]at a;exact .inr ⟨hjk,b,a⟩
theorem Hl (hk:Cl A k c ss)(ss':List cH):Cl {A with cG:=A.cG.set k ss'} k c ss':=⟨hk.1,zO (cY.1 hk.2).1⟩
theorem Wjf {ss':List cH}{j:Nat}{d:cA}{tt:List cH}(hjk:j≠k)(h:Cl A j d tt):Cl {A with cG:=A.cG.set k ss'} j d tt:=⟨h.1,(zh (Ne.symm hjk)).trans h.2⟩
theorem GA.lb (h:GA A)(hk:Cl A k c ss){ss':List cH}(hC:dI c ss')(hst:ss'.map (·.st)=ss.map (·.st))(ht:∀t,A.cR[k]?=some t->∀x∈t.bs.flatten,Tk c ss' x):GA {A with cG:=A.cG.set k ss'}:=by
 refine⟨h.pg.same rfl rfl rfl rfl,h.tb,by simp[h.lc],h.lt,λj d b a=>?_,λj d b a s i=>?_,λj d b a p=>?_,h.j4,h.tf,h.hO,h.kC,h.qD,λj d b t a g=>?_,h.oK⟩
 ·rcases UN hk a with⟨rfl,rfl,rfl⟩|⟨hne,a⟩
  ·exact hC
  ·exact h.cG j d b a
 ·rcases UN hk a with⟨rfl,rfl,rfl⟩|⟨hne,a⟩
  ·have:s.st∈ss.map (·.st):=by rw[←hst];exact zE.2 ⟨s,i,rfl⟩
   obtain⟨t,ht,e⟩:=zE.1 this;rw[←e];exact h.one _ _ _ hk t ht
  ·exact h.one j d b a s i
 ·rcases UN hk a with⟨rfl,rfl,rfl⟩|⟨hne,a⟩
  ·rw[Oo hst];exact h.ow _ _ _ hk p
  ·exact h.ow j d b a p
 ·rcases UN hk a with⟨rfl,rfl,rfl⟩|⟨hne,a⟩
  ·exact ht t g
  ·exact h.mq j d b t a g
theorem AY (hk:Cl A k c ss){ss':List cH}{j:Nat}{x:Int}:fU {A with cG:=A.cG.set k ss'} j x↔(j=k/\Tk c ss' x)\/(j≠k/\fU A j x):=by
 constructor
 ·rintro⟨d,tt,hj,hx⟩;rcases UN hk hj with⟨rfl,rfl,rfl⟩|⟨hne,hj⟩
  ·exact .inl ⟨rfl,hx⟩
  ·exact .inr ⟨hne,d,tt,hj,hx⟩
 ·rintro(⟨rfl,hx⟩|⟨hne,d,tt,hj,hx⟩)
  ·exact⟨c,ss',Hl hk ss',hx⟩
  ·exact⟨d,tt,Wjf hne hj,hx⟩
theorem VM (hk:Cl A k c ss){x:Int}:fU A k x↔Tk c ss x:=by
 constructor
 ·rintro⟨d,tt,hj,hx⟩;obtain⟨rfl,rfl⟩:=hk.eq hj;exact hx
 ·intro hx;exact⟨c,ss,hk,hx⟩
def swp (A:AR)(k:Nat)(c:cA)(ss:List cH):AR:=UB {A with cG:=A.cG.set k (cK ss)} ((QT ss).map λs=>(s,c.aF))
theorem Cb {p:Nat}:mY ((QT ss).map λs=>(s,c.aF)) p↔∃x∈QT ss,x<=p/\p<x+c.aF:=by
 unfold mY;simp only[zE];constructor
 ·rintro⟨_,⟨x,hx,rfl⟩,h⟩;exact⟨x,hx,h⟩
 ·rintro⟨x,hx,h⟩;exact⟨_,⟨x,hx,rfl⟩,h⟩
theorem GA.jZ (h:GA A)(hk:Cl A k c ss){x:Nat}(hx:x∈QT ss){p:Nat}(h1:x<=p)(h2:p<x+c.aF):A.f p=1/\A.ow p=k+1:=by
 obtain⟨s,a,_,rfl⟩:=C5.1 hx;exact h.used hk a h1 h2
theorem GA.ri (h:GA A)(hk:Cl A k c ss):sX {A with cG:=A.cG.set k (cK ss)} (swp A k c ss) ((QT ss).map λs=>(s,c.aF)):=by
 have i:=h.cG k c ss hk;refine Em _ (h.pg.same rfl rfl rfl rfl) (λr g=>?_) (λr g p u j=>?_) ?_
 ·obtain⟨x,_,rfl⟩:=zE.1 g;exact i.pg
 ·obtain⟨x,m,rfl⟩:=zE.1 g;exact(h.jZ hk m u j).1
 ·rw[sv];exact(χ i).imp λ{a b} d=>.inl d
theorem GA.swp (h:GA A)(hk:Cl A k c ss):GA (Go.Ar.swp A k c ss):=by
 have b:=h.ri hk;have w:=h.cG k c ss hk;have z:=hk.lt;have D:=h.tb;have cl:∀{j d m},Cl (Go.Ar.swp A k c ss) j d m->(j=k/\d=c/\m=cK ss)\/(j≠k/\Cl A j d m):=λ{j d m} a=>UN hk ⟨by rw[←b.tb];exact a.1,by rw[←b.cG];exact a.2⟩;have own:∀p,mY ((QT ss).map λs=>(s,c.aF)) p->A.ow p=k+1:=λp g=>by
  obtain⟨x,u,E,C⟩:=Cb.1 g;exact(h.jZ hk u E C).2
 have cR:(Go.Ar.swp A k c ss).cR=A.cR:=b.cR;have tb:(Go.Ar.swp A k c ss).tb=A.tb:=b.tb;have runs:(Go.Ar.swp A k c ss).runs=A.runs:=b.runs;refine⟨b.pg,by rw[tb];exact h.tb,by rw[b.cG,tb];simp[h.lc],by rw[cR,tb];exact h.lt,λj d m a=>?_,λj d m a s y=>?_,λj d m a p=>?_,λp=>?_,λp=>?_,by rw[runs];exact h.hO,by rw[runs];exact h.kC,by rw[cR];exact h.qD,λj d m t a r=>?_,by rw[cR,tb];exact h.oK⟩
 ·rcases cl a with⟨rfl,rfl,rfl⟩|⟨hne,a⟩
  ·exact w.cK
  ·exact h.cG j d m a
 ·rcases cl a with⟨rfl,rfl,rfl⟩|⟨hne,a⟩
  ·exact h.one _ _ _ hk s (zL.1 y).1
  ·exact h.one j d m a s y
 ·by_cases g:mY ((QT ss).map λs=>(s,c.aF)) p
  ·rw[(b.i p g).2];have B:=own p g;rcases cl a with⟨rfl,rfl,rfl⟩|⟨hne,a⟩
   ·rw[LA w];constructor
    ·intro e;omega
    ·rintro⟨_,hn⟩;exact(hn (Cb.1 g)).elim
   ·rw[←h.ow j d m a p,B];omega
  ·rw[(b.o p g).2];rcases cl a with⟨rfl,rfl,rfl⟩|⟨hne,a⟩
   ·rw[LA w];show A.ow p=_↔_;rw[h.ow _ _ _ hk p];exact⟨λu=>⟨u,λF=>g (Cb.2 F)⟩,λu=>u.1⟩
   ·exact h.ow j d m a p
 ·rw[runs];by_cases g:mY ((QT ss).map λs=>(s,c.aF)) p
  ·rw[(b.i p g).2,←h.j4,own p g];omega
  ·rw[(b.o p g).2];exact h.j4 p
 ·rw[tb];by_cases g:mY ((QT ss).map λs=>(s,c.aF)) p
  ·rw[(b.i p g).2];omega
  ·rw[(b.o p g).2];exact h.tf p
 ·rw[cR]at r;rcases cl a with⟨rfl,rfl,rfl⟩|⟨hne,a⟩
  ·intro x u;exact(FC w).2 (h.mq _ _ _ t hk r x u)
  ·exact h.mq j d m t a r
theorem GA.Dh (h:GA A)(hk:Cl A k c ss):Kp A (Go.Ar.swp A k c ss):=by
 have b:=h.ri hk;refine⟨b.n,b.tb,b.room,b.z,λp a=>?_⟩;by_cases hi:mY ((QT ss).map λs=>(s,c.aF)) p
 ·rw[(b.i p hi).1]at a;omega
 ·rw[(b.o p hi).1]at a;exact a
theorem GA.CL (h:GA A)(hk:Cl A k c ss){j:Nat}{x:Int}:fU (Go.Ar.swp A k c ss) j x↔fU A j x:=by
 have b:=h.ri hk;have a:=h.cG k c ss hk;have e:fU (Go.Ar.swp A k c ss) j x↔fU {A with cG:=A.cG.set k (cK ss)} j x:=by unfold fU Cl;rw[b.tb,b.cG]
 rw[e,AY hk,FC a];constructor
 ·rintro(⟨rfl,hx⟩|⟨_,hx⟩)
  ·exact(VM hk).2 hx
  ·exact hx
 ·intro hx;by_cases hjk:j=k
  ·subst hjk;exact .inl ⟨rfl,(VM hk).1 hx⟩
  ·exact .inr ⟨hjk,hx⟩
theorem Hz {k:Int}:A.ck k=true↔∃j:Nat,k=j/\j<A.tb.length:=by
 unfold AR.ck;simp only[zF,zV];constructor
 ·intro h;exact⟨k.toNat,O,O⟩
 ·rintro⟨j,rfl,h⟩;omega
structure Ob (A B:AR):Prop where
 ga:GA B
 kp:Kp A B
 runs:B.runs=A.runs
theorem Le (h:GA A)(k m:Int):Ob A (YQ A k m)/\(YQ A k m).cR=A.cR/\(Yw A k m).Nodup/\(Yw A k m≠[]->∃j:Nat,k=j/\j<A.tb.length)/\(∀x∈Yw A k m,¬fU A k.toNat (x:Int)) ∧
 ∀j y,fU (YQ A k m) j y↔fU A j y\/(j=k.toNat/\∃x∈Yw A k m,y=((x:Nat):Int)):=by
 by_cases h0:Q6 A k m=0
 ·have g:A.ck k=true:=by
   unfold Q6 at h0;split at h0
   ·assumption
   ·cases h0
  obtain⟨j,rfl,s⟩:=Hz.1 g;obtain⟨c,ss,t,b,E⟩:=h.cl s;have u:VQ A (j:Int) m=KE c m.toNat ss:=by unfold VQ;rw[dH,b.1,b.2]
  have p:YQ A (j:Int) m = {A with cG:=A.cG.set j (KE c m.toNat ss).2}:=by unfold YQ;rw[zC h0,u,dH]
  have r:Yw A (j:Int) m=(KE c m.toNat ss).1:=by unfold Yw;rw[zC h0,u]
  rw[p,r];obtain⟨s1,s2,D,B,z,w⟩:=Gm m.toNat (h.cG j c ss b);refine⟨⟨h.lb b s1 s2 λC d x a=>(w x).2 (.inr (h.mq j c ss C b d x a)),Kp.aF rfl rfl rfl rfl,rfl⟩,rfl,B,λ_=>⟨j,rfl,s⟩,λx a=>?_,λi y=>?_⟩
  ·rw[dH,VM b];exact z x a
  ·rw[AY b,w,dH];by_cases hij:i=j
   ·subst hij;rw[VM b];constructor
    ·rintro(⟨_,a|a⟩|⟨a,_⟩)
     ·exact .inr ⟨rfl,a⟩
     ·exact .inl a
     ·exact(a rfl).elim
    ·rintro(a|⟨_,a⟩)
     ·exact .inl ⟨rfl,.inr a⟩
     ·exact .inl ⟨rfl,.inl a⟩
   ·constructor
    ·rintro(⟨a,_⟩|⟨_,a⟩)
     ·exact(hij a).elim
     ·exact .inl a
    ·rintro(a|⟨a,_⟩)
     ·exact .inr ⟨hij,a⟩
     ·exact(hij a).elim
 ·have p:YQ A k m=A:=by unfold YQ;rw[zB h0]
  have r:Yw A k m=[]:=by unfold Yw;rw[zB h0]
  rw[p,r];exact⟨⟨h,Kp.refl A,rfl⟩,rfl,tz,by simp,by simp,by simp⟩
theorem FZ {xs:List Int}(h:kG c ss xs):iM c ss xs=0:=by
 unfold iM;have b:xs.any (λx=>(eH c ss x).isNone)=false:=by
  rw[mr];intro x hx;rw[h.1 x hx];simp
 have a:xs.any (λx=>eH c ss x==some false)=false:=by
  rw[mr];intro x hx;rw[h.1 x hx];simp
 rw[b,a,zI h.2];rfl
theorem GC (h:GA A)(hk:Cl A k c ss)(xs:List Int):Kr A (k:Int) xs=iM c ss xs:=by
 unfold Kr;rw[Hz.2 ⟨k,rfl,hk.lt⟩,zC rfl,dH,hk.1,hk.2]
theorem BB (h:GA A){k:Int}{xs:List Int}(h0:Kr A k xs=0):∃(j:Nat) (c:cA) (ss:List cH),k=j/\Cl A j c ss/\kG c ss xs:=by
 have a:A.ck k=true:=by
  unfold Kr at h0;split at h0
  ·assumption
  ·cases h0
 obtain⟨j,rfl,d⟩:=Hz.1 a;obtain⟨c,ss,t,b,g⟩:=h.cl d;rw[GC h b]at h0;exact⟨j,c,ss,rfl,b,FB h0⟩
theorem Ec (h:GA A){k:Int}{xs:List Int}(hd:Kr A k xs=0->∀x∈xs,¬ic A k.toNat x):Ob A (ZT A k xs)/\(ZT A k xs).cR=A.cR ∧
 (Kr A k xs=0->∀j y,fU (ZT A k xs) j y↔fU A j y/\¬(j=k.toNat/\y∈xs))/\(Kr A k xs≠0->ZT A k xs=A):=by
 by_cases h0:Kr A k xs=0
 ·obtain⟨j,c,m,rfl,g,B⟩:=BB h h0;obtain⟨C,z,w⟩:=La xs (h.cG j c m g) B;have r:=h.lb g C z λt u x a=>(w x).2 ⟨h.mq j c m t g u x a,λE=>hd h0 x E ⟨t,by rw[dH];exact u,a⟩⟩;have d:=Hl g (xs.foldl (fJ c) m);have s:ZT A (j:Int) xs=swp {A with cG:=A.cG.set j (xs.foldl (fJ c) m)} j c (xs.foldl (fJ c) m):=by
   unfold ZT swp;rw[zC h0,dH,g.1,g.2];simp only[nO]
  have b:=r.ri d;rw[s];refine⟨⟨r.swp d,(Kp.aF rfl rfl rfl rfl:Kp A {A with cG:=A.cG.set j (xs.foldl (fJ c) m)}).trans (r.Dh d),b.runs⟩,b.cR,λ_ i y=>?_,λD=>(D h0).elim⟩;rw[r.CL d,AY g,w,dH];by_cases hij:i=j
  ·subst hij;rw[VM g];constructor
   ·rintro(⟨_,a,hy⟩|⟨a,_⟩)
    ·exact⟨a,λp=>hy p.2⟩
    ·exact(a rfl).elim
   ·rintro⟨a,hy⟩;exact .inl ⟨rfl,a,λp=>hy ⟨rfl,p⟩⟩
  ·constructor
   ·rintro(⟨a,_⟩|⟨_,a⟩)
    ·exact(hij a).elim
    ·exact⟨a,λp=>hij p.1⟩
   ·rintro⟨a,_⟩;exact .inr ⟨hij,a⟩
 ·have s:ZT A k xs=A:=by unfold ZT;rw[zB h0]
  rw[s];exact⟨⟨h,Kp.refl A,rfl⟩,rfl,λa=>(h0 a).elim,λ_=>rfl⟩
theorem GA.j2 (h:GA A){k:Nat}{t':gQ}(h1:t'.bs.flatten.Nodup)(h2:∀x∈t'.bs.flatten,fU A k x)(h3:∀c,A.tb[k]?=some c->∀xs∈t'.bs,xs.length=c.batch):GA {A with cR:=A.cR.set k t'}:=by
 have get:∀{j t},(A.cR.set k t')[j]?=some t->(j=k/\t=t')\/(j≠k/\A.cR[j]?=some t):=by
  intro j t a;by_cases hjk:j=k
  ·subst hjk;have g:j<A.cR.length:=by have:=(cY.1 a).1;simpa using this
   rw[zO g]at a;exact .inl ⟨rfl,(Option.some.inj a).symm⟩
  ·rw[zh (Ne.symm hjk)]at a;exact .inr ⟨hjk,a⟩
 refine⟨h.pg.same rfl rfl rfl rfl,h.tb,h.lc,by simp[h.lt],h.cG,h.one,h.ow,h.j4,h.tf,h.hO,h.kC,λj t a=>?_,λj c i t b a x d=>?_,λj c t b a=>?_⟩
 ·rcases get a with⟨rfl,rfl⟩|⟨_,a⟩
  ·exact h1
  ·exact h.qD j t a
 ·rcases get a with⟨rfl,rfl⟩|⟨_,a⟩
  ·exact(VM b).1 (h2 x d)
  ·exact h.mq j c i t b a x d
 ·rcases get a with⟨rfl,rfl⟩|⟨_,a⟩
  ·exact h3 c b
  ·exact h.oK j c t b a
theorem Am {t':gQ}{j:Nat}{x:Int}(hk:k<A.cR.length):ic {A with cR:=A.cR.set k t'} j x↔(j=k/\x∈t'.bs.flatten)\/(j≠k/\ic A j x):=by
 by_cases hjk:j=k
 ·subst hjk;have a:(A.cR.set j t')[j]?=some t':=zO hk;constructor
  ·rintro⟨t,e,hx⟩;have e:(A.cR.set j t')[j]?=some t:=e;rw[a]at e;cases e;exact .inl ⟨rfl,hx⟩
  ·rintro(⟨_,hx⟩|⟨hx,_⟩)
   ·exact⟨_,a,hx⟩
   ·exact(hx rfl).elim
 ·have a:(A.cR.set k t')[j]?=A.cR[j]? := zh (Ne.symm hjk);constructor
  ·rintro⟨t,e,hx⟩;have e:(A.cR.set k t')[j]?=some t:=e;rw[a]at e;exact .inr ⟨hjk,t,e,hx⟩
  ·rintro(⟨hx,_⟩|⟨_,t,e,hx⟩)
   ·exact(hjk hx).elim
   ·exact⟨t,a.trans e,hx⟩
theorem GH {t:gQ}(ht:A.cR[k]?=some t){x:Int}:ic A k x↔x∈t.bs.flatten:=by
 constructor
 ·rintro⟨t',e,hx⟩;rw[ht]at e;cases e;exact hx
 ·intro hx;exact⟨t,ht,hx⟩
theorem Jd (h:GA A)(k:Int):Ob A (ZW A k)/\(∀j y,fU (ZW A k) j y↔fU A j y)/\(∀x∈YM A k,ic A k.toNat x)/\(YM A k).Nodup/\(YM A k≠[]->∃j:Nat,k=j/\j<A.tb.length) ∧
 ∀j y,ic (ZW A k) j y↔ic A j y/\¬(j=k.toNat/\y∈YM A k):=by
 by_cases h0:Qz A k=0
 ·have p:A.ck k=true:=by
   unfold Qz at h0;split at h0
   ·assumption
   ·cases h0
  obtain⟨j,rfl,B⟩:=Hz.1 p;obtain⟨c,H,t,E,g⟩:=h.cl B;have hne:t.bs≠[]:=by
   intro e;unfold Qz at h0;rw[p,zC rfl,dH,g]at h0;simp[e]at h0
  have w:ZW A (j:Int) = {A with cR:=A.cR.set j t.rem}:=by unfold ZW;rw[zC h0,dH,VA g]
  have D:YM A (j:Int)=t.bs.getLast?.getD []:=by unfold YM;rw[zC h0,dH,g]
  have u:t.bs=t.bs.dropLast++[t.bs.getLast hne]:=(List.dropLast_concat_getLast hne).symm;have G:YM A (j:Int)=t.bs.getLast hne:=by rw[D,List.getLast?_eq_some_getLast hne];rfl
  have d:t.bs.flatten=t.bs.dropLast.flatten++t.bs.getLast hne:=by
   conv=>lhs;rw[u]
   simp
  have s:=h.qD j t g;rw[d]at s;have b:=nr.1 s;have m:t.rem.bs=t.bs.dropLast:=rfl;rw[w,G];refine⟨⟨h.j2 (by rw[m];exact b.1) (λx a=>(VM E).2 (h.mq j c H t E g x (by rw[d];exact kL _ a))) λF C J z=>h.oK j F t C g J ((List.dropLast_sublist _).subset z),Kp.aF rfl rfl rfl rfl,rfl⟩,λ_ _=>Iff.rfl,λx a=>?_,b.2.1,λ_=>⟨j,rfl,B⟩,λi y=>?_⟩
  ·rw[dH,GH g,d];exact oC _ a
  ·rw[Am (by rw[h.lt];exact B),m,dH];by_cases hij:i=j
   ·subst hij;rw[GH g,d,zM];constructor
    ·rintro(⟨_,a⟩|⟨a,_⟩)
     ·exact⟨.inl a,λr=>b.2.2 y a y r.2 rfl⟩
     ·exact(a rfl).elim
    ·rintro⟨a|a,r⟩
     ·exact .inl ⟨rfl,a⟩
     ·exact(r ⟨rfl,a⟩).elim
   ·constructor
    ·rintro(⟨a,_⟩|⟨_,a⟩)
     ·exact(hij a).elim
     ·exact⟨a,λr=>hij r.1⟩
    ·rintro⟨a,_⟩;exact .inr ⟨hij,a⟩
 ·have w:ZW A k=A:=by unfold ZW;rw[zB h0]
  have D:YM A k=[]:=by unfold YM;rw[zB h0]
  rw[w,D];exact⟨⟨h,Kp.refl A,rfl⟩,λ_ _=>Iff.rfl,by simp,tz,by simp,by simp⟩
theorem Ny (h:GA A)(k:Int){xs:List Int}(hn:xs.Nodup)(hd:∀x∈xs,¬ic A k.toNat x):Ob A (KB A k xs)/\(∀j y,fU (KB A k xs) j y↔fU A j y) ∧
 (VB A k xs=true->(∃j:Nat,k=j/\j<A.tb.length)/\(∀x∈xs,fU A k.toNat x)/\∀j y,ic (KB A k xs) j y↔ic A j y\/(j=k.toNat/\y∈xs))/\(VB A k xs=false->KB A k xs=A):=by
 by_cases h0:VB A k xs=true
 ·have B:H7 A k xs=0:=by
   unfold VB at h0;simp only[zF,zV]at h0;exact h0.1
  have w:A.ck k=true:=by
   unfold H7 at B;split at B
   ·assumption
   ·cases B
  obtain⟨j,rfl,D⟩:=Hz.1 w;obtain⟨c,H,t,u,s⟩:=h.cl D;have g:=B;unfold H7 at g;rw[w,zC rfl,dH,u.1,u.2]at g;simp only at g;have p:xs.length=c.batch:=by
   apply Classical.byContradiction;intro d;rw[zB d]at g;cases g
  rw[zC p]at g;have z:∀x∈xs,fU A j x:=by
   intro x d;split at g
   ·rename_i C;rw[kx]at C;rw[VM u];simpa[Tk]using C x d
   ·cases g
  have E:KB A (j:Int) xs = {A with cR:=A.cR.set j {t with bs:=t.bs++[xs]}}:=by unfold KB;rw[zC h0,dH,VA s]
  have r:(t.bs++[xs]).flatten=t.bs.flatten++xs:=by simp
  rw[E];refine⟨⟨h.j2 ?_ ?_ ?_,Kp.aF rfl rfl rfl rfl,rfl⟩,λ_ _=>Iff.rfl,λ_=>⟨⟨j,rfl,D⟩,by rw[dH];exact z,λi y=>?_⟩,λF=>by rw[F]at h0;cases h0⟩
  ·show(t.bs++[xs]).flatten.Nodup;rw[r,nr];exact⟨h.qD j t s,hn,λa C b G e=>hd b G (by subst e;rw[dH,GH s];exact C)⟩
  ·intro x d;have d:x∈(t.bs++[xs]).flatten:=d;rw[r,zM]at d;rcases d with d|d
   ·exact(VM u).2 (h.mq j c H t u s x d)
   ·exact z x d
  ·intro c' hc' ys m;have m:ys∈t.bs++[xs]:=m;rcases zM.1 m with m|m
   ·exact h.oK j c' t hc' s ys m
   ·simp only[zN]at m;rw[u.1]at hc';cases hc';rw[m];exact p
  ·rw[Am (by rw[h.lt];exact D),dH];show(i=j/\y∈(t.bs++[xs]).flatten)\/_↔_;rw[r,zM];by_cases hij:i=j
   ·subst hij;rw[GH s];constructor
    ·rintro(⟨_,d|d⟩|⟨d,_⟩)
     ·exact .inl d
     ·exact .inr ⟨rfl,d⟩
     ·exact(d rfl).elim
    ·rintro(d|⟨_,d⟩)
     ·exact .inl ⟨rfl,.inl d⟩
     ·exact .inl ⟨rfl,.inr d⟩
   ·constructor
    ·rintro(⟨d,_⟩|⟨_,d⟩)
     ·exact(hij d).elim
     ·exact .inl d
    ·rintro(d|⟨d,_⟩)
     ·exact .inr ⟨hij,d⟩
     ·exact(hij d).elim
 ·have E:KB A k xs=A:=by unfold KB;rw[zB h0]
  rw[E];exact⟨⟨h,Kp.refl A,rfl⟩,λ_ _=>Iff.rfl,λd=>(h0 d).elim,λ_=>rfl⟩
end Go.Ar
namespace Go.Ar
open Go.Bu (Zx Kf Zv qA VK dG take KK Vk Bounded full can YP U4 ZV Kh Z5 W9 Kn QD Uk Hr ld)
variable {A:AR}{sp:Sp}{k:Nat}{c:cA}{ss:List cH}
structure Ow (A:AR) (sp:Sp):Prop where
 l:sp.st.length=A.n
 own:∀p,A.f p≠0->gf sp.st p≠0
 cl:∀p,A.f p=3->gf sp.st p=1
 le:∀p,gf sp.st p<=2
structure St (A B:AR) (sp sp':Sp):Prop where
 ga:GA B
 ow:Ow B sp'
 n:B.n=A.n
 tb:B.tb=A.tb
 room:B.room=A.room
 same:∀p,A.f p=0->B.f p=0->gf sp'.st p=gf sp.st p
 gone:∀p,A.f p≠0->B.f p=0->gf sp'.st p=0
 new:∀p,A.f p=0->B.f p≠0->gf sp.st p=0/\16<=p
theorem St.refl (h:GA A)(hw:Ow A sp):St A A sp sp:=⟨h,hw,rfl,rfl,rfl,λ_ _ _=>rfl,λp b a=>(b a).elim,λp b a=>(a b).elim⟩
theorem Ow.len {B C:AR}{sp sp':Sp}(h:Ow B sp)(k:Ow C sp')(e:C.n=B.n):sp'.st.length=sp.st.length:=by rw[h.l,k.l,e]
theorem St.trans {B C:AR}{sp' sp'':Sp}(h:St A B sp sp')(k:St B C sp' sp''):St A C sp sp'':=by
 refine⟨k.ga,k.ow,k.n.trans h.n,k.tb.trans h.tb,k.room.trans h.room,λp a b=>?_,λp a b=>?_,λp a b=>?_⟩
 ·by_cases hB:B.f p=0
  ·rw[k.same p hB b,h.same p a hB]
  ·rw[k.gone p hB b,(h.new p a hB).1]
 ·by_cases hB:B.f p=0
  ·rw[k.same p hB b,h.gone p a hB]
  ·exact k.gone p hB b
 ·by_cases hB:B.f p=0
  ·have:=k.new p hB b;rw[h.same p a hB]at this;exact this
  ·exact h.new p a hB
theorem Ow.kp {B:AR}(hw:Ow A sp)(h:Kp A B):Ow B sp:=⟨hw.l.trans h.n.symm,λp a=>hw.own p λe=>a ((h.z p).2 e),λp a=>hw.cl p (h.t p a),hw.le⟩
theorem St.kp {B:AR}(hg:GA B)(hw:Ow A sp)(h:Kp A B):St A B sp sp:=
 ⟨hg,hw.kp h,h.n,h.tb,h.room,λ_ _ _=>rfl,λp b a=>(b ((h.z p).1 a)).elim,λp b a=>(a ((h.z p).2 b)).elim⟩
theorem Ob.st {B:AR}(o:Ob A B)(hw:Ow A sp):St A B sp sp:=St.kp o.ga hw o.kp
theorem GA.grown (h:GA A){B:AR}{sp':Sp}{s size:Nat}(g:Grown A B sp sp' s size):GA B:=by
 have e:∀{j d tt},Cl B j d tt↔Cl A j d tt:=λ{j d tt}=>by unfold Cl;rw[g.tb,g.cG]
 exact⟨g.pg,by rw[g.tb];exact h.tb,by rw[g.cG,g.tb];exact h.lc,by rw[g.cR,g.tb];exact h.lt,λj d tt a=>h.cG j d tt (e.1 a),λj d tt a=>h.one j d tt (e.1 a),λj d tt a p=>by rw[g.ow];exact h.ow j d tt (e.1 a) p,
  λp=>by rw[g.ow,g.runs];exact h.j4 p,λp=>by rw[g.ow,g.tb];exact h.tf p,by rw[g.runs];exact h.hO,by rw[g.runs];exact h.kC,by rw[g.cR];exact h.qD,λj d tt t a b=>h.mq j d tt t (e.1 a) (by rw[←g.cR];exact b),by rw[g.tb,g.cR];exact h.oK⟩
theorem Grown.st (h:GA A)(hw:Ow A sp){B:AR}{sp':Sp}{s size:Nat}(g:Grown A B sp sp' s size):St A B sp sp':=by
 have b:∀p,B.f p≠A.f p->s<=p/\p<s+size:=λp a=>by
  apply Classical.byContradiction;intro hn;exact a (g.o p hn).1
 refine⟨h.grown g,⟨g.l.trans (hw.l.trans g.n.symm),λp a=>?_,λp a=>?_,λp=>?_⟩,g.n,g.tb,g.room,λp j d=>?_,λp j d=>?_,λp j d=>?_⟩
 ·by_cases hi:s<=p/\p<s+size
  ·rw[(g.i p hi.1 hi.2).2];omega
  ·rw[(g.o p hi).2];rw[(g.o p hi).1]at a;exact hw.own p a
 ·by_cases hi:s<=p/\p<s+size
  ·rw[(g.i p hi.1 hi.2).2]
  ·rw[(g.o p hi).2];rw[(g.o p hi).1]at a;exact hw.cl p a
 ·by_cases hi:s<=p/\p<s+size
  ·rw[(g.i p hi.1 hi.2).2];omega
  ·rw[(g.o p hi).2];exact hw.le p
 ·refine(g.o p λhi=>?_).2;rw[(g.i p hi.1 hi.2).1]at d;omega
 ·have:=b p O;rw[(g.i p this.1 this.2).1]at d;omega
 ·have:=b p O;exact⟨g.un p this.1 this.2,by have:=g.s1;omega⟩
theorem TE {n:Nat}{S:Nat->Bool}(hb:Bounded S n)(hn:n<=1024){j q m a:Nat}(hf:full S j q=true)(hm:m<=2^j)(ha:a<=2^j):Zv n S m a≠none:=by
 intro h0;have r:S (q*2^j)=true:=YP.1 hf _ (C7 _ (kS j));obtain⟨i,hi⟩:=U4 hb r;have g:j<=i:=by
  apply Classical.byContradiction;intro hlt;exact Kh hi hf rfl (C7 _ (kS j)) O
 have s:=Z5 hb (ZV.1 hi).1;have d:i<11:=by
  apply Classical.byContradiction;intro hge;have:2^11<=2^i:=pZ O O;omega
 have p:2^j<=2^i:=pZ O g;have:=Hr h0 i d O O;have b:=(Kn hb (k:=i)).2 ⟨_,rfl,hi⟩;rw[this]at b;simp at b
theorem BQ (m:Nat):Kz m=16\/Kz m=32\/Kz m=64:=by
 unfold Kz;split
 ·exact .inl rfl
 ·split
  ·exact .inr (.inl rfl)
  ·exact .inr (.inr rfl)
theorem Sc {m:Nat}(h:m<=64):m<=Kz m:=by
 unfold Kz;split
 ·omega
 ·split<;>omega
theorem Im (h:GA A)(hw:Ow A sp){m a no:Nat}(h1:1<=m)(h2:m<=64)(ha:1<=a/\a<=16) :
 (dC A sp m a no=(none,A,sp)/\Zv A.n A.S m a=none/\dB sp (Kz (max m a))=none) ∨
 ∃x A1 sp1,dC A sp m a no=(some x,dS A1 x m no,sp1)/\Zv A1.n A1.S m a=some x/\(A1=A/\sp1=sp\/Zv A.n A.S m a=none/\∃s,dB sp (Kz (max m a))=some s/\Grown A A1 sp sp1 s (Kz (max m a))):=by
 cases ht:Zv A.n A.S m a with
 | some x=>exact .inr ⟨x,A,sp,by unfold dC;rw[ht],ht,.inl ⟨rfl,rfl⟩⟩
 | none=>
  cases hg:Hg A sp (Kz (max m a))with
  | none=>
   refine .inl ⟨by unfold dC;rw[ht,hg],rfl,?_⟩;unfold Hg at hg;split at hg
   ·assumption
   ·cases hg
  | some r=>
   obtain⟨A1,sp1⟩:=r;obtain⟨s,u,g⟩:=RU h.pg hw.l (λp b=>Classical.byContradiction λy=>hw.own p y b) (BQ _) hg;have d:Zv A1.n A1.S m a≠none:=by
    have z:=Sc (m:=max m a) O;obtain⟨_,_,⟨i,hi⟩,_⟩:=Hh (by have:=BQ (max m a);omega) u;have key:∃j,Kz (max m a)=2^j:=by
     rcases BQ (max m a)with e|e|e
     ·exact⟨4,e⟩
     ·exact⟨5,e⟩
     ·exact⟨6,e⟩
    obtain⟨j,B⟩:=key;refine TE g.pg.jD g.pg.n2 (j:=j) (q:=i) (YP.2 λp b=>?_) O O;rw[g.pg.fr];rw[QD,←B,←hi]at b;rw[(g.i p b.1 b.2).1];omega
   obtain⟨x,w⟩:=Option.ne_none_iff_exists'.1 d;exact .inr ⟨x,A1,sp1,by unfold dC;rw[ht,hg];simp only;rw[w],w,.inr ⟨rfl,s,u,g⟩⟩
theorem JX (h:PG A){m a x:Nat}(hx:Zv A.n A.S m a=some x):∀p,x<=p->p<x+m->A.S p=true:=λp b d=>(ld h.jD hx).2 p b d
theorem Sm (h:PG A){m a x:Nat}(h1:1<=m)(h4:m<=4)(hx:Zv A.n A.S m a=some x):x/16=(x+m-1)/16:=by
 obtain⟨j,_,b,_,d,_⟩:=Uk hx;obtain⟨q,rfl,g⟩:=(Kn h.jD).1 (List.mem_of_head? d)
 match j,b with
 | 0,b=>
  have:m=1:=by omega
  subst this;rfl
 | 1,b=>
  have:m<=2:=by omega
  simp only[Nat.pow_one]at *;omega
 | j+2,b=>
  have e:2^(j+2)=4*2^j:=by rw[Nat.pow_add];omega
  rw[e,←xp,Nat.mul_comm q 4,xp];generalize q*2^j=z;omega
theorem FW (h:PG A){a m no:Nat}(h1:1<=m)(hn:no≠0)(hS:∀p,a<=p->p<a+m->A.S p=true):Kp A (dS A a m no):=by
 obtain⟨o,hi,g,d⟩:=DR h h1 hn hS;refine⟨rfl,rfl,rfl,d,λp b=>?_⟩;by_cases hin:a<=p/\p<a+m
 ·rw[(hi p hin.1 hin.2).1]at b;omega
 ·rw[o.f p hin]at b;exact b
theorem GA.rF (h:GA A)(hk:Cl A k c ss){x:Nat}(hS:∀p,x<=p->p<x+c.aF->A.S p=true)(h1:x/16=(x+c.aF-1)/16) :
 GA {dS A x c.aF (k+1)with cG:=(dS A x c.aF (k+1)).cG.set k (ir c ss x)}/\(∀s∈ss,s.st+c.aF<=x\/x+c.aF<=s.st):=by
 have u:=h.cG k c ss hk;have m:=u.pg;have z:=hk.lt;have D:=h.tb;obtain⟨o,hi,pg,F⟩:=DR h.pg m (no:=k+1) O hS;have r:∀p,x<=p->p<x+c.aF->A.ow p=0:=λp E B=>by
  have C:=(h.pg.fr p).1 (hS p E B);apply Classical.byContradiction;intro hne;have:=(h.pg.us p).2 hne;omega
 have hd:∀s∈ss,s.st+c.aF<=x\/x+c.aF<=s.st:=λs b=>by
  apply Classical.byContradiction;intro hn;have C:=r (max x s.st) O O;have:=(h.used hk b (p:=max x s.st) O O).2;omega
 refine⟨?_,hd⟩;have g:Cl (dS A x c.aF (k+1)) k c ss:=hk;refine⟨pg.same rfl rfl rfl rfl,h.tb,by show(A.cG.set k _).length=_;simp[h.lc];rfl,h.lt,λj d i a=>?_,λj d i a s b=>?_,λj d i a p=>?_,λp=>?_,λp=>?_,h.hO,h.kC,h.qD,λj d i t a w=>?_,h.oK⟩
 ·rcases UN g a with⟨rfl,rfl,rfl⟩|⟨hne,a⟩
  ·exact Lc u hd
  ·exact h.cG j d i a
 ·rcases UN g a with⟨rfl,rfl,rfl⟩|⟨hne,a⟩
  ·rcases VU.1 b with rfl|b
   ·exact h1
   ·exact h.one _ _ _ hk s b
  ·exact h.one j d i a s b
 ·show(dS A x c.aF (k+1)).ow p=j+1↔_;by_cases hp:x<=p/\p<x+c.aF
  ·rw[(hi p hp.1 hp.2).2];rcases UN g a with⟨rfl,rfl,rfl⟩|⟨hne,a⟩
   ·exact⟨λ_=>⟨_,VU.2 (.inl rfl),hp.1,hp.2⟩,λ_=>rfl⟩
   ·rw[←h.ow j d i a p,r p hp.1 hp.2];omega
  ·rw[o.ow p hp];rcases UN g a with⟨rfl,rfl,rfl⟩|⟨hne,a⟩
   ·rw[h.ow _ _ _ hk p];constructor
    ·rintro⟨s,b,h3⟩;exact⟨s,VU.2 (.inr b),h3⟩
    ·rintro⟨s,b,h3⟩;rcases VU.1 b with rfl|b
     ·exact(hp h3).elim
     ·exact⟨s,b,h3⟩
   ·exact h.ow j d i a p
 ·show(dS A x c.aF (k+1)).ow p=41↔mY A.runs p;by_cases hp:x<=p/\p<x+c.aF
  ·rw[(hi p hp.1 hp.2).2,←h.j4,r p hp.1 hp.2];omega
  ·rw[o.ow p hp];exact h.j4 p
 ·show(dS A x c.aF (k+1)).ow p=41\/(dS A x c.aF (k+1)).ow p<=A.tb.length;by_cases hp:x<=p/\p<x+c.aF
  ·rw[(hi p hp.1 hp.2).2];omega
  ·rw[o.ow p hp];exact h.tf p
 ·rcases UN g a with⟨rfl,rfl,rfl⟩|⟨hne,a⟩
  ·intro y hy;exact(Lm u hd).2 (h.mq _ _ _ t hk w y hy)
  ·exact h.mq j d i t a w
theorem GA.uS (h:GA A){x m:Nat}(hm:1<=m)(hS:∀p,x<=p->p<x+m->A.S p=true):GA {dS A x m 41 with runs:=A.runs++[(x,m)]}:=by
 have y:=h.tb;obtain⟨o,hi,pg,B⟩:=DR h.pg hm (no:=41) O hS;have i:∀p,x<=p->p<x+m->A.ow p=0:=λp z u=>by
  have w:=(h.pg.fr p).1 (hS p z u);apply Classical.byContradiction;intro hne;have:=(h.pg.us p).2 hne;omega
 refine⟨pg.same rfl rfl rfl rfl,h.tb,h.lc,h.lt,h.cG,h.one,λj d tt b p=>?_,λp=>?_,λp=>?_,λr a=>?_,?_,h.qD,h.mq,h.oK⟩
 ·have b:Cl A j d tt:=b;have:=b.lt;show(dS A x m 41).ow p=j+1↔_;by_cases hp:x<=p/\p<x+m
  ·rw[(hi p hp.1 hp.2).2,←h.ow j d tt b p,i p hp.1 hp.2];omega
  ·rw[o.ow p hp];exact h.ow j d tt b p
 ·show(dS A x m 41).ow p=41↔mY (A.runs++[(x,m)]) p;by_cases hp:x<=p/\p<x+m
  ·rw[(hi p hp.1 hp.2).2];exact⟨λ_=>⟨(x,m),by simp,hp⟩,λ_=>rfl⟩
  ·rw[o.ow p hp,h.j4];constructor
   ·rintro⟨r,a,h3⟩;exact⟨r,by simp[a],h3⟩
   ·rintro⟨r,a,h3⟩;rcases zM.1 a with a|a
    ·exact⟨r,a,h3⟩
    ·simp only[zN]at a;subst a;exact(hp h3).elim
 ·show(dS A x m 41).ow p=41\/(dS A x m 41).ow p<=A.tb.length;by_cases hp:x<=p/\p<x+m
  ·rw[(hi p hp.1 hp.2).2];omega
  ·rw[o.ow p hp];exact h.tf p
 ·rcases zM.1 a with a|a
  ·exact h.hO r a
  ·simp only[zN]at a;subst a;exact hm
 ·refine qE.2 ⟨h.kC,by simp,λr a s g=>?_⟩;simp only[zN]at g;subst g;apply Classical.byContradiction;intro hn;simp only at hn;have:=h.hO r a;have w:=i (max x r.1) O O;have:=(h.jG a (p:=max x r.1) O O).2;omega
theorem TT {l:List (Nat×Nat)}{x m:Nat}(h:∀r∈l,r.1≠x):cC.mset2 l x m=l++[(x,m)]:=by
 unfold cC.mset2;rw[zB];simp only[zy,zT,not_exists,not_and];exact h
theorem Eo (h:GA A)(hw:Ow A sp)(k:Int) :
 ((cQ A sp k=(A,sp))/\Vv A sp k≠0/\(A.ck k=true->Vv A sp k=6)) ∨
 ∃(j:Nat) (c:cA) (ss:List cH) (x:Nat) (A1:AR) (sp1:Sp),k=j/\Cl A j c ss/\Cl A1 j c ss/\Vv A sp k=0/\cQ A sp k=({dS A1 x c.aF (j+1)with cG:=(dS A1 x c.aF (j+1)).cG.set j (ir c ss x)},sp1) ∧
  St A A1 sp sp1/\A1.runs=A.runs/\A1.cR=A.cR/\A1.cG=A.cG/\Zv A1.n A1.S c.aF 1=some x/\(∀s∈ss,s.st+c.aF<=x\/x+c.aF<=s.st)/\St A (cQ A sp k).1 sp (cQ A sp k).2:=by
 by_cases hck:A.ck k=true
 ·obtain⟨j,rfl,H⟩:=Hz.1 hck;obtain⟨c,ss,t,b,J⟩:=h.cl H;have G:=h.cG j c ss b;have y:=G.ok;unfold cA.ok at y;have D:=b.lt;rcases Im h hw (m:=c.aF) (a:=1) (no:=j+1) O O O with⟨hg,_⟩|⟨x,A1,sp1,hg,htk,hor⟩
  ·left;have z:Vv A sp (j:Int)=6:=by unfold Vv;rw[hck,zC rfl,dH,b.1,b.2];simp only;rw[hg]
   have E:cQ A sp (j:Int)=(A,sp):=by unfold cQ;rw[hck,zC rfl,dH,b.1,b.2];simp only;rw[hg]
   rw[E,z];exact⟨rfl,by simp,λ_=>rfl⟩
  ·right;have z:Vv A sp (j:Int)=G3 c ss x:=by unfold Vv;rw[hck,zC rfl,dH,b.1,b.2];simp only;rw[hg]
   have w:GA A1:=by
    rcases hor with⟨rfl,rfl⟩|⟨_,s,_,g⟩
    ·exact h
    ·exact h.grown g
   have i:St A A1 sp sp1:=by
    rcases hor with⟨rfl,rfl⟩|⟨_,s,_,g⟩
    ·exact St.refl h hw
    ·exact g.st h hw
   have d:A1.runs=A.runs/\A1.cR=A.cR/\A1.cG=A.cG:=by
    rcases hor with⟨rfl,rfl⟩|⟨_,s,_,g⟩
    ·exact⟨rfl,rfl,rfl⟩
    ·exact⟨g.runs,g.cR,g.cG⟩
   have p:Cl A1 j c ss:=⟨by rw[i.tb];exact b.1,by rw[d.2.2];exact b.2⟩;have B:=JX w.pg htk;obtain⟨F,hd⟩:=w.rF p B (Sm w.pg O O htk);have C:=LY hd;have u:cQ A sp (j:Int)=({dS A1 x c.aF (j+1)with cG:=(dS A1 x c.aF (j+1)).cG.set j (ir c ss x)},sp1):=by
    unfold cQ;rw[hck,zC rfl,dH,b.1,b.2];simp only;rw[hg];simp only;rw[zC C]
   refine⟨j,c,ss,x,A1,sp1,rfl,b,p,by rw[z];exact C,u,i,d.1,d.2.1,d.2.2,htk,hd,?_⟩;rw[u];have kp:=FW w.pg (no:=j+1) O O B;exact i.trans (St.kp F i.ow (kp.trans (Kp.aF rfl rfl rfl rfl)))
 ·left;have r:A.ck k=false:=by simpa using hck
  unfold cQ Vv;rw[r];exact⟨rfl,by simp,λh=>by cases h⟩
theorem P4 (h:GA A)(hw:Ow A sp)(k:Int):St A (cQ A sp k).1 sp (cQ A sp k).2/\(cQ A sp k).1.runs=A.runs/\(cQ A sp k).1.cR=A.cR/\(∀j y,fU (cQ A sp k).1 j y↔fU A j y)/\(Vv A sp k≠0->cQ A sp k=(A,sp)):=by
 rcases Eo h hw k with⟨e,_⟩|⟨j,c,ss,x,A1,sp1,rfl,hk,hk1,hE,e,hst,r1,r2,r3,_,hd,hS⟩
 ·rw[e];exact⟨St.refl h hw,rfl,rfl,λ_ _=>Iff.rfl,λ_=>rfl⟩
 ·refine⟨hS,by rw[e];exact r1,by rw[e];exact r2,λi y=>?_,λd=>(d hE).elim⟩;rw[e];have b:Cl (dS A1 x c.aF (j+1)) j c ss:=hk1;rw[AY b,Lm (h.cG j c ss hk) hd];have e2:fU (dS A1 x c.aF (j+1)) i y↔fU A i y:=by
   have:(dS A1 x c.aF (j+1)).tb=A.tb/\(dS A1 x c.aF (j+1)).cG=A.cG:=⟨hst.tb,r3⟩;unfold fU Cl;rw[this.1,this.2]
  rw[e2];by_cases hij:i=j
  ·subst hij;rw[VM hk];exact⟨λa=>by rcases a with⟨_,a⟩|⟨a,_⟩;exact a;exact(a rfl).elim,λa=>.inl ⟨rfl,a⟩⟩
  ·exact⟨λa=>by rcases a with⟨a,_⟩|⟨_,a⟩;exact(hij a).elim;exact a,λa=>.inr ⟨hij,a⟩⟩
theorem MT {m a:Int}(h:KM m a=true):∃x y:Nat,m=x/\a=y/\1<=x/\x<=64/\(y=1\/y=2\/y=4\/y=8\/y=16):=by
 unfold KM at h;simp only[zF,zV,nI,zT]at h;exact⟨m.toNat,a.toNat,O,O,O,O,O⟩
theorem SU (h:GA A)(hw:Ow A sp)(m a:Int) :
 (cC A sp m a=(A,sp)/\QZ A sp m a≠0/\(KM m a=true->QZ A sp m a=6/\Zv A.n A.S m.toNat a.toNat=none/\dB sp (Kz (max m.toNat a.toNat))=none)) ∨
 ∃(x:Nat) (A1:AR) (sp1:Sp),KM m a=true/\QZ A sp m a=0/\Qy A sp m a=x/\cC A sp m a=({dS A1 x m.toNat 41 with runs:=A.runs++[(x,m.toNat)]},sp1) ∧
  Zv A1.n A1.S m.toNat a.toNat=some x/\(A1=A/\sp1=sp\/Zv A.n A.S m.toNat a.toNat=none/\∃s,dB sp (Kz (max m.toNat a.toNat))=some s/\Grown A A1 sp sp1 s (Kz (max m.toNat a.toNat))) ∧
  St A (cC A sp m a).1 sp (cC A sp m a).2/\(cC A sp m a).1.cR=A.cR/\(∀j y,fU (cC A sp m a).1 j y↔fU A j y):=by
 by_cases hp:KM m a=true
 ·obtain⟨b,u,rfl,rfl,K,H,Q⟩:=MT hp;have F:QZ A sp (b:Int) (u:Int)=if(dC A sp b u 41).1.isSome then 0 else 6:=by unfold QZ;rw[zC hp,dH,dH]
  have N:Qy A sp (b:Int) (u:Int)=(dC A sp b u 41).1.getD 0:=by unfold Qy;rw[zC hp,dH,dH]
  rcases Im h hw (m:=b) (a:=u) (no:=41) K H O with⟨hg,hn1,hn2⟩|⟨x,A1,sp1,hg,htk,hor⟩
  ·left;have L:cC A sp (b:Int) (u:Int)=(A,sp):=by unfold cC;rw[zC hp,dH,dH,hg]
   rw[L,F,hg,dH,dH];exact⟨rfl,by simp,λ_=>⟨rfl,hn1,hn2⟩⟩
  ·right;have z:GA A1:=by
    rcases hor with⟨rfl,rfl⟩|⟨_,s,_,g⟩
    ·exact h
    ·exact h.grown g
   have w:St A A1 sp sp1:=by
    rcases hor with⟨rfl,rfl⟩|⟨_,s,_,g⟩
    ·exact St.refl h hw
    ·exact g.st h hw
   have d:A1.runs=A.runs/\A1.cR=A.cR/\A1.cG=A.cG:=by
    rcases hor with⟨rfl,rfl⟩|⟨_,s,_,g⟩
    ·exact⟨rfl,rfl,rfl⟩
    ·exact⟨g.runs,g.cR,g.cG⟩
   have E:=JX z.pg htk;have B:∀r∈A.runs,r.1≠x:=λr M e=>by
    have C:r∈A1.runs:=by rw[d.1];exact M
    have:=z.hO r C;have P:=(z.jG C (p:=x) O O).1;have R:=(z.pg.fr x).1 (E x O O);omega
   have i:cC A sp (b:Int) (u:Int)=({dS A1 x b 41 with runs:=A.runs++[(x,b)]},sp1):=by
    unfold cC;rw[zC hp,dH,dH,hg];show({dS A1 x b 41 with runs:=cC.mset2 A1.runs x b},sp1)=_;rw[d.1,TT B]
   have G:=z.uS O E;rw[d.1]at G;have kp:=FW z.pg (no:=41) O O E;refine⟨x,A1,sp1,hp,by rw[F,hg];rfl,by rw[N,hg];rfl,by rw[dH];exact i,by rw[dH,dH];exact htk,by rw[dH,dH];exact hor,?_,by rw[i];exact d.2.1,λj y=>?_⟩
   ·rw[i];exact w.trans (St.kp G w.ow (kp.trans (Kp.aF rfl rfl rfl rfl)))
   ·rw[i];have e1:({dS A1 x b 41 with runs:=A.runs++[(x,b)]}:AR).tb=A.tb:=w.tb;have e2:({dS A1 x b 41 with runs:=A.runs++[(x,b)]}:AR).cG=A.cG:=d.2.2;unfold fU Cl;rw[e1,e2]
 ·left;have D:KM m a=false:=by simpa using hp
  unfold cC QZ;rw[D];exact⟨rfl,by simp,λJ=>by cases J⟩
theorem R7 {x:Int}{r:Nat×Nat}(h:qx A x=some r):r∈A.runs/\x=(r.1:Int):=by
 unfold qx at h;exact⟨tK h,by have:=uV h;simpa using Eq.symm (by simpa using this)⟩
theorem ο (h:GA A)(x:Int):(Kp A (Q8 A x)/\GA (Q8 A x))/\(Q8 A x).cR=A.cR/\(∀j y,fU (Q8 A x) j y↔fU A j y)/\(Vw A x≠0->Q8 A x=A) ∧
 (Vw A x=0->∃r∈A.runs,x=(r.1:Int)/\(Q8 A x).runs=A.runs.filter λq=>!(q==r)):=by
 cases hr:qx A x with
 | none=>
  have e:Q8 A x=A:=by unfold Q8;rw[hr]
  have D:Vw A x=8:=by unfold Vw;rw[hr];rfl
  rw[e,D];exact⟨⟨Kp.refl A,h⟩,rfl,λ_ _=>Iff.rfl,λ_=>rfl,λi=>by cases i⟩
 | some r=>
  obtain⟨b,i⟩:=R7 hr;have u:=h.hO r b;have z:A.runs.filter (λq=>!((q.1:Int)==x))=A.runs.filter λq=>!(q==r):=by
   apply vX;intro q g;have:((q.1:Int)==x)=(q==r):=by
    rw[kA];simp only[zT];constructor
    ·intro e;have F:=h.hO q g;exact h.gU g b (x:=q.1) O O O O
    ·rintro rfl;exact i.symm
   rw[this]
  have e:Q8 A x=Us {A with runs:=A.runs.filter λq=>!(q==r)} r:=by unfold Q8;rw[hr];simp only;rw[z]
  have D:Vw A x=0:=by unfold Vw;rw[hr];rfl
  obtain⟨a,m⟩:=r;obtain⟨o,hi,pg,H⟩:=JS (A:={A with runs:=A.runs.filter λq=>!(q==(a,m))}) (h.pg.same rfl rfl rfl rfl) u (λp E B=>(h.jG b E B).1);have own:∀p,a<=p->p<a+m->A.ow p=41:=λp E B=>(h.jG b E B).2;have G:=h.tb;rw[e,D];refine⟨⟨⟨rfl,rfl,rfl,H,λp C=>?_⟩,?_⟩,rfl,λ_ _=>Iff.rfl,λi=>(i rfl).elim,λ_=>⟨_,b,i,rfl⟩⟩
  ·by_cases hin:a<=p/\p<a+m
   ·rw[(hi p hin.1 hin.2).1]at C;omega
   ·rw[o.f p hin]at C;exact C
  ·refine⟨pg,h.tb,h.lc,h.lt,h.cG,h.one,λj d tt w p=>?_,λp=>?_,λp=>?_,λq g=>h.hO q (zL.1 g).1,h.kC.filter _,h.qD,h.mq,h.oK⟩
   ·have w:Cl A j d tt:=w;have:=w.lt;by_cases hin:a<=p/\p<a+m
    ·rw[(hi p hin.1 hin.2).2,←h.ow j d tt w p,own p hin.1 hin.2];omega
    ·rw[o.ow p hin];exact h.ow j d tt w p
   ·show _↔mY (A.runs.filter λq=>!(q==(a,m))) p;by_cases hin:a<=p/\p<a+m
    ·rw[(hi p hin.1 hin.2).2];constructor
     ·intro i;omega
     ·rintro⟨q,g,q1,q2⟩;have s:=zL.1 g;have:=h.gU s.1 b q1 q2 hin.1 hin.2;subst this;simp at s
    ·rw[o.ow p hin];show A.ow p=41↔_;rw[h.j4];constructor
     ·rintro⟨q,g,q1⟩;refine⟨q,zL.2 ⟨g,?_⟩,q1⟩;have:q≠(a,m):=by rintro rfl;exact hin q1
      simpa using this
     ·rintro⟨q,g,q1⟩;exact⟨q,(zL.1 g).1,q1⟩
   ·by_cases hin:a<=p/\p<a+m
    ·rw[(hi p hin.1 hin.2).2];omega
    ·rw[o.ow p hin];exact h.tf p
theorem Dg (k:Nat):∀(outs:List (List Int)) {A:AR},GA A->outs.flatten.Nodup->(∀x∈outs.flatten,fU A k x/\¬ic A k x) →
 Ob A (outs.foldl (λA' xs=>ZT A' (k:Int) xs) A)/\(outs.foldl (λA' xs=>ZT A' (k:Int) xs) A).cR=A.cR/\∀j y,fU (outs.foldl (λA' xs=>ZT A' (k:Int) xs) A) j y↔fU A j y/\¬(j=k/\y∈outs.flatten)
 | [],A,h,_,_=>⟨⟨h,Kp.refl A,rfl⟩,rfl,by simp⟩
 | xs::outs,A,h,hn,ht=>by
  rw[vp]at hn ht;have hn':=nr.1 hn;have p:∀x∈xs,fU A k x/\¬ic A k x:=λx i=>ht x (kL _ i);rw[r7];cases xs with
  | nil=>
   have s:ZT A (k:Int) []=A\/Kr A (k:Int) []=0:=by
    by_cases w:Kr A (k:Int) []=0
    ·exact .inr w
    ·exact .inl (by unfold ZT;rw[zB w])
   obtain⟨o,e,t,_⟩:=Ec h (k:=(k:Int)) (xs:=[]) (λ_=>by simp);have u:∀j y,fU (ZT A (k:Int) []) j y↔fU A j y:=λj y=>by
    rcases s with s|s
    ·rw[s]
    ·rw[t s];simp
   have m:∀j y,ic (ZT A (k:Int) []) j y↔ic A j y:=λj y=>by unfold ic;rw[e]
   obtain⟨o2,e2,z⟩:=Dg k outs o.ga hn'.2.1 λx i=>by rw[u,m];exact ht x (oC _ i)
   exact⟨⟨o2.ga,o.kp.trans o2.kp,o2.runs.trans o.runs⟩,e2.trans e,λj y=>by rw[z,u];simp⟩
  | cons x0 xs=>
   obtain⟨c,C,B,_⟩:=(p x0 aA).1;have w:Kr A (k:Int) (x0::xs)=0:=by
    rw[GC h B];exact FZ ⟨λx i=>(VM B).1 (p x i).1,hn'.1⟩
   obtain⟨o,e,t,_⟩:=Ec h (k:=(k:Int)) (xs:=x0::xs) (λ_ x i=>by rw[dH];exact(p x i).2);have u:=t w;have m:∀j y,ic (ZT A (k:Int) (x0::xs)) j y↔ic A j y:=λj y=>by unfold ic;rw[e]
   obtain⟨o2,e2,z⟩:=Dg k outs o.ga hn'.2.1 λx i=>by
    rw[u,m];have:=ht x (oC _ i);exact⟨⟨this.1,λg=>hn'.2.2 x g.2 x i rfl⟩,this.2⟩
   refine⟨⟨o2.ga,o.kp.trans o2.kp,o2.runs.trans o.runs⟩,e2.trans e,λj y=>?_⟩;rw[z,u,dH,vp,zM];constructor
   ·rintro⟨⟨a,b⟩,d⟩;refine⟨a,λ⟨r,g⟩=>?_⟩;rcases g with g|g
    ·exact b ⟨r,g⟩
    ·exact d ⟨r,g⟩
   ·rintro⟨a,b⟩;exact⟨⟨a,λ⟨r,g⟩=>b ⟨r,.inl g⟩⟩,λ⟨r,g⟩=>b ⟨r,.inr g⟩⟩
structure uO (A B:AR):Prop where
 ob:Ob A B
 sub:∀j y,ic B j y->ic A j y
 tk:∀j y,fU B j y↔fU A j y/\(ic A j y->ic B j y)
theorem uO.trans {B C:AR}(h:uO A B)(k:uO B C):uO A C:=
 ⟨⟨k.ob.ga,h.ob.kp.trans k.ob.kp,k.ob.runs.trans h.ob.runs⟩,λj y g=>h.sub j y (k.sub j y g),λj y=>by
  rw[k.tk,h.tk];exact⟨λ⟨⟨a,b⟩,d⟩=>⟨a,λe=>d (b e)⟩,λ⟨a,b⟩=>⟨⟨a,λe=>k.sub j y (b e)⟩,λe=>b (h.sub j y e)⟩⟩⟩
theorem RL (h:GA A)(hk:k<A.tb.length):uO A (vj A k):=by
 obtain⟨c,H,t,D,m⟩:=h.cl hk;have p:k<A.cR.length:=by rw[h.lt];exact hk
 have e:vj A k=t.out.foldl (λA' w=>ZT A' (k:Int) w) {A with cR:=A.cR.set k t.tick}:=by unfold vj;rw[m]
 have z:t.bs=t.out++t.tick.bs:=(n4 ((t.low+1)/2) t.bs).symm;have i:t.bs.flatten=t.out.flatten++t.tick.bs.flatten:=by conv=>lhs;rw[z];rw[List.flatten_append]
 have u:=h.qD k t m;rw[i]at u;have g:=nr.1 u;have s:∀x∈t.bs.flatten,fU A k x:=λx d=>(VM D).2 (h.mq k c H t D m x d);have F:GA {A with cR:=A.cR.set k t.tick}:=h.j2 g.2.1 (λx d=>s x (by rw[i];exact oC _ d)) λG C w B=>h.oK k G t C m w (t.pW w B);obtain⟨o,e2,E⟩:=Dg k t.out F g.1 λx d=>by
  refine⟨s x (by rw[i];exact kL _ d),?_⟩;rw[Am p];rintro(⟨_,hy⟩|⟨hy,_⟩)
  ·exact g.2.2 x d x hy rfl
  ·exact hy rfl
 rw[←e]at o e2 E;have r:∀j y,ic (vj A k) j y↔(j=k/\y∈t.tick.bs.flatten)\/(j≠k/\ic A j y):=λj y=>by
  rw[←Am p];unfold ic;rw[e2]
 refine⟨⟨o.ga,(Kp.aF rfl rfl rfl rfl:Kp A {A with cR:=A.cR.set k t.tick}).trans o.kp,o.runs⟩,λj y d=>?_,λj y=>?_⟩
 ·rcases(r j y).1 d with⟨rfl,hy⟩|⟨_,hy⟩
  ·rw[GH m,i];exact oC _ hy
  ·exact hy
 ·rw[E,r];show fU A j y/\_↔_;by_cases hjk:j=k
  ·subst hjk;rw[GH m,i,zM];constructor
   ·rintro⟨a,b⟩;refine⟨a,λd=>?_⟩;rcases d with d|d
    ·exact(b ⟨rfl,d⟩).elim
    ·exact .inl ⟨rfl,d⟩
   ·rintro⟨a,b⟩;refine⟨a,λ⟨_,d⟩=>?_⟩;rcases b (.inl d)with⟨_,hy⟩|⟨hy,_⟩
    ·exact g.2.2 y d y hy rfl
    ·exact hy rfl
  ·exact⟨λ⟨a,_⟩=>⟨a,λd=>.inr ⟨hjk,d⟩⟩,λ⟨a,_⟩=>⟨a,λ⟨d,_⟩=>hjk d⟩⟩
theorem EP (h:GA A):∀m,m<=A.tb.length->uO A ((List.range m).foldl vj A)
 | 0,_=>⟨⟨h,Kp.refl A,rfl⟩,λ_ _=>id,λ_ _=>⟨λa=>⟨a,id⟩,λa=>a.1⟩⟩
 | m+1,hm=>by
  have t:=EP h m O;rw[qF,vE,r7,List.foldl_nil];exact t.trans (RL t.ob.ga (by rw[t.ob.kp.tb];omega))
theorem Ot (h:GA A):uO A (sO A):=EP h _ (by rw[h.lt];exact zD _)
end Go.Ar
namespace Go.Ar
open Go.Bu (Zx Kf Zv qA VK dG take KK Vk Bounded)
variable {A:AR}{sp:Sp}{k:Nat}{c:cA}{ss:List cH}
end Go.Ar
namespace Go.Ar
structure Pc where
 k:Nat
 cls:Int
 addr:Nat
 size:Nat
 eU:Bool
 deriving DecidableEq
structure Wd where
 tb:List cA
 sp:Sp
 bY:List AR
 held:List Pc
structure Act where
 kd:Int
 ar:Int
 cl:Int
 a:Int
 b:Int
 l:List Int
abbrev Key:=Nat×Int×Nat
def Pc.key (p:Pc):Key:=(p.k,p.cls,p.addr)
def l8 (k:Nat)(cls x:Int)(p:Pc):Bool:=p.k==k&&(p.cls==cls&&((p.addr:Int)==x && !p.eU))
def wg (held:List Pc)(k:Nat)(cls x:Int):Option Nat:=held.findIdx? (l8 k cls x)
def jA (held:List Pc)(k:Nat)(cls:Int)(l:List Int):Bool:=l.all (λx=>(wg held k cls x).isSome)&&decide l.Nodup
def ma (k:Nat)(cls:Int)(held:List Pc)(x:Int):List Pc:=match wg held k cls x with
 | some i=>held.take i++held.drop (i+1)
 | none=>held
def xH (held:List Pc)(k:Nat)(cls:Int)(l:List Int):List Pc:=l.foldl (ma k cls) held
def eI (k:Nat)(cls:Int)(l:List Int)(p:Pc):Bool:=p.k==k&&(p.cls==cls&&l.contains (p.addr:Int))
def Ge (held:List Pc)(k:Nat)(cls:Int)(l:List Int)(m:Bool):List Pc:=held.map λp=>if eI k cls l p then{p with eU:=m}else p
def JU (held:List Pc)(x:Int):Bool:=held.any λp=>decide ((p.addr:Int)<=x)&&decide (x-(p.addr:Int)<(p.size:Int))
def A4 (us:List AR)(held:List Pc):List Pc:=held.filter λp=>!p.eU||(match us[p.k]? with
 | some A=>xq A (p.addr:Int)
 | none=>false)
def pC (tb:List cA)(k:Int):Nat:=((tb[k.toNat]?).map (·.size)).getD 0
def Wd.put (W:Wd)(k:Nat)(A:AR)(sp:Sp)(held:List Pc):Wd:={W with sp:=sp,bY:=W.bY.set k A,held:=held}
def Hd (A:AR)(p:Pc):Prop:=(p.cls = -1/\p.eU=false/\∃r∈A.runs,p.addr=r.1*256/\p.size=r.2*256) ∨
 ∃(j:Nat) (c:cA),p.cls=j/\A.tb[j]?=some c/\p.size=c.size/\fU A j (p.addr:Int)/\(p.eU=true↔ic A j (p.addr:Int))
structure WI (W:Wd):Prop where
 ga:∀(k:Nat) (A:AR),W.bY[k]?=some A->GA A
 ow:∀(k:Nat) (A:AR),W.bY[k]?=some A->Ow A W.sp
 tb:∀(k:Nat) (A:AR),W.bY[k]?=some A->A.tb=W.tb
 low:∀(k:Nat) (A:AR),W.bY[k]?=some A->∀p,p<16->A.f p=0
 own:∀p,gf W.sp.st p≠0->∃(k:Nat) (A:AR),W.bY[k]?=some A/\A.f p≠0
 one:∀p (k l:Nat) (A B:AR),W.bY[k]?=some A->W.bY[l]?=some B->A.f p≠0->B.f p≠0->k=l
 hk:(W.held.map Pc.key).Nodup
 hf:∀p∈W.held,∃A,W.bY[p.k]?=some A/\Hd A p
 ht:∀(k:Nat) (A:AR),W.bY[k]?=some A->∀(j:Nat) (y:Int),fU A j y->∃p∈W.held,p.k=k/\p.cls=j/\(p.addr:Int)=y
 hr:∀(k:Nat) (A:AR),W.bY[k]?=some A->∀r∈A.runs,∃p∈W.held,p.k=k/\p.cls = -1/\p.addr=r.1*256
variable {W:Wd}{k:Nat}{A:AR}
theorem VD {α:Type}{l:List α}{k j:Nat}{x y:α}(h:(l.set k x)[j]?=some y):(j=k/\y=x/\k<l.length)\/(j≠k/\l[j]?=some y):=by
 by_cases hjk:j=k
 ·subst hjk;have a:j<l.length:=by have:=(cY.1 h).1;simpa using this
  rw[zO a]at h;exact .inl ⟨rfl,(Option.some.inj h).symm,a⟩
 ·rw[zh (Ne.symm hjk)]at h;exact .inr ⟨hjk,h⟩
theorem WI.unique (h:WI W){p q:Pc}(hp:p∈W.held)(hq:q∈W.held)(e:p.key=q.key):p=q:=by
 obtain⟨i,hi⟩:=zP hp;obtain⟨j,d⟩:=zP hq;obtain⟨b,rfl⟩:=cY.1 hi;obtain⟨a,rfl⟩:=cY.1 d;have:=my.1 h.hk;rcases qt i j with hl|hl|hl
 ·exact(this i j (by simpa using b) (by simpa using a) hl (by simpa using e)).elim
 ·subst hl;rfl
 ·exact(this j i (by simpa using a) (by simpa using b) hl (by simpa using e.symm)).elim
theorem WI.step (h:WI W)(hk:W.bY[k]?=some A){B:AR}{sp':Sp}{held':List Pc}(s:St A B W.sp sp')(h1:(held'.map Pc.key).Nodup)(h2:∀p∈held',p.k=k->Hd B p)(h3:∀p,p.k≠k->(p∈held'↔p∈W.held))
 (h4:∀(j:Nat) (y:Int),fU B j y->∃p∈held',p.k=k/\p.cls=j/\(p.addr:Int)=y) (h5:∀r∈B.runs,∃p∈held',p.k=k/\p.cls = -1/\p.addr=r.1*256):WI (W.put k B sp' held'):=by
 have E:=(cY.1 hk).1;have u:(W.bY.set k B)[k]?=some B:=zO E;have K:∀{j:Nat} {C:AR},j≠k->W.bY[j]?=some C->(W.bY.set k B)[j]?=some C:=λa g=>(zh (Ne.symm a)).trans g;have m:∀{j:Nat} {C:AR},j≠k->W.bY[j]?=some C->∀p,C.f p≠0->A.f p=0/\B.f p=0/\gf sp'.st p=gf W.sp.st p:=by
  intro j C a g p b;have w:A.f p=0:=Classical.byContradiction λz=>a (h.one p j k C A g hk b z);have x:B.f p=0:=Classical.byContradiction λz=>by
   have:=(s.new p w z).1;exact(h.ow j C g).own p b this
  exact⟨w,x,s.same p w x⟩
 refine⟨λj C a=>?_,λj C a=>?_,λj C a=>?_,λj C a p b=>?_,λp b=>?_,λp j l C D a J g F=>?_,h1,λp b=>?_,λj C a i y H=>?_,λj C a r hr=>?_⟩
 ·rcases VD a with⟨rfl,rfl,_⟩|⟨_,a⟩
  ·exact s.ga
  ·exact h.ga j C a
 ·rcases VD a with⟨rfl,rfl,_⟩|⟨d,a⟩
  ·exact s.ow
  ·have o:=h.ow j C a;have L:=h.ow k A hk;refine⟨?_,λp b=>?_,λp b=>?_,s.ow.le⟩
   ·show sp'.st.length=C.n;rw[s.ow.l,s.n,←L.l,o.l]
   ·show gf sp'.st p≠0;rw[(m d a p b).2.2];exact o.own p b
   ·show gf sp'.st p=1;rw[(m d a p O).2.2];exact o.cl p b
 ·rcases VD a with⟨rfl,rfl,_⟩|⟨_,a⟩
  ·exact s.tb.trans (h.tb _ A hk)
  ·exact h.tb j C a
 ·rcases VD a with⟨rfl,rfl,_⟩|⟨_,a⟩
  ·apply Classical.byContradiction;intro z;have:=s.new p (h.low _ A hk p b) z;omega
  ·exact h.low j C a p b
 ·have b:gf sp'.st p≠0:=b;by_cases x:B.f p=0
  ·by_cases w:A.f p=0
   ·rw[s.same p w x]at b;obtain⟨j,C,a,g⟩:=h.own p b;have d:j≠k:=by
     rintro rfl;rw[hk]at a;cases a;exact g w
    exact⟨j,C,K d a,g⟩
   ·exact(b (s.gone p w x)).elim
  ·exact⟨k,B,u,x⟩
 ·rcases VD a with⟨rfl,rfl,_⟩|⟨d,hj'⟩
  ·rcases VD J with⟨rfl,rfl,_⟩|⟨hne2,hl'⟩
   ·rfl
   ·exact(g (m hne2 hl' p F).2.1).elim
  ·rcases VD J with⟨rfl,rfl,_⟩|⟨hne2,hl'⟩
   ·exact(F (m d hj' p g).2.1).elim
   ·exact h.one p j l C D hj' hl' g F
 ·by_cases hpk:p.k=k
  ·exact⟨B,by rw[hpk];exact u,h2 p b hpk⟩
  ·obtain⟨C,g,M⟩:=h.hf p ((h3 p hpk).1 b);exact⟨C,K hpk g,M⟩
 ·rcases VD a with⟨rfl,rfl,_⟩|⟨d,a⟩
  ·exact h4 i y H
  ·obtain⟨p,b,e1,e2,G⟩:=h.ht j C a i y H;exact⟨p,(h3 p (by rw[e1];exact d)).2 b,e1,e2,G⟩
 ·rcases VD a with⟨rfl,rfl,_⟩|⟨d,a⟩
  ·exact h5 r hr
  ·obtain⟨p,b,e1,e2,G⟩:=h.hr j C a r hr;exact⟨p,(h3 p (by rw[e1];exact d)).2 b,e1,e2,G⟩
theorem Hd.to {B:AR}{p:Pc}(h:Hd A p)(e1:B.tb=A.tb)(e2:B.runs=A.runs)(e3:∀j y,fU A j y->fU B j y)(e4:∀j y,ic B j y↔ic A j y):Hd B p:=by
 rcases h with⟨h1,h2,r,hr,h3⟩|⟨j,c,h1,h2,h3,h4,h5⟩
 ·exact .inl ⟨h1,h2,r,by rw[e2];exact hr,h3⟩
 ·exact .inr ⟨j,c,h1,by rw[e1];exact h2,h3,e3 _ _ h4,by rw[e4];exact h5⟩
theorem WI.hd (h:WI W)(hk:W.bY[k]?=some A){p:Pc}(hp:p∈W.held)(e:p.k=k):Hd A p:=by
 obtain⟨C,a,b⟩:=h.hf p hp;rw[e,hk]at a;cases a;exact b
theorem WI.l5 (h:WI W)(hk:W.bY[k]?=some A){B:AR}{sp':Sp}(s:St A B W.sp sp')(e2:B.runs=A.runs)(e3:∀j y,fU B j y↔fU A j y)(e4:B.cR=A.cR):WI (W.put k B sp' W.held):=
 h.step hk s h.hk (λp a e=>(h.hd hk a e).to s.tb e2 (λj y=>(e3 j y).2) λj y=>by unfold ic;rw[e4]) (λ_ _=>Iff.rfl) (λj y b=>h.ht k A hk j y ((e3 j y).1 b)) λr hr=>h.hr k A hk r (by rw[←e2];exact hr)
theorem WI.cls (h:WI W){p:Pc}(hp:p∈W.held){j:Nat}(e:p.cls=j)(hk:W.bY[p.k]?=some A):∃c,A.tb[j]?=some c/\p.size=c.size/\fU A j (p.addr:Int)/\(p.eU=true↔ic A j (p.addr:Int)):=by
 rcases h.hd hk hp rfl with⟨h1,_⟩|⟨i,c,h1,h2,h3,h4,h5⟩
 ·omega
 ·obtain rfl:i=j:=by omega
  exact⟨c,h2,h3,h4,h5⟩
theorem WI.run (h:WI W){p:Pc}(hp:p∈W.held)(e:p.cls = -1)(hk:W.bY[p.k]?=some A):p.eU=false/\∃r∈A.runs,p.addr=r.1*256/\p.size=r.2*256:=by
 rcases h.hd hk hp rfl with⟨_,h2⟩|⟨i,c,h1,_⟩
 ·exact h2
 ·omega
theorem Vn {k:Nat}{cls x:Int}{p:Pc}:l8 k cls x p=true↔p.k=k/\p.cls=cls/\(p.addr:Int)=x/\p.eU=false:=by
 simp[l8]
theorem Qv {k:Nat}{cls:Int}{l:List Int}{p:Pc}:eI k cls l p=true↔p.k=k/\p.cls=cls/\(p.addr:Int)∈l:=by
 simp[eI]
theorem WkU {held:List Pc}{k:Nat}{cls x:Int}{i:Nat}(h:wg held k cls x=some i):∃p,held[i]?=some p/\l8 k cls x p=true:=by
 obtain⟨hi,a,_⟩:=nE.1 h;exact⟨held[i],cX hi,a⟩
theorem LR {held:List Pc}{k:Nat}{cls x:Int}{p:Pc}(hp:p∈held)(h:l8 k cls x p=true):(wg held k cls x).isSome=true:=by
 unfold wg;rw[List.findIdx?_isSome,zy];exact⟨p,hp,h⟩
theorem Vo {held:List Pc}{k:Nat}{cls:Int}{l:List Int}:jA held k cls l=true↔(∀x∈l,∃p∈held,l8 k cls x p=true)/\l.Nodup:=by
 unfold jA;rw[zF,kx,zV];refine and_congr_left λ_=>forall_congr' λx=>imp_congr_right λa=>?_;unfold wg;rw[List.findIdx?_isSome,zy]
theorem υ {held:List Pc}(hn:(held.map Pc.key).Nodup){i:Nat}{p:Pc}(hi:held[i]?=some p):held.take i++held.drop (i+1)=held.filter λq=>!(q.key==p.key):=by
 induction held generalizing i with
 | nil=>simp at hi
 | cons q l ih=>
  rw[zR,zr]at hn;cases i with
  | zero=>
   simp only[yL,Option.some.injEq]at hi;subst hi;have:l.filter (λr=>!(r.key==q.key))=l:=by
    rw[qH];intro r hr;have:r.key≠q.key:=λe=>hn.1 (zE.2 ⟨r,hr,e⟩);simpa using this
   simp[this]
  | succ i=>
   have hi:l[i]?=some p:=by simpa using hi
   have a:q.key≠p.key:=λe=>hn.1 (zE.2 ⟨p,zG hi,e.symm⟩);rw[vz,wk,lN,ih hn.2 hi,tZ];have:(!(q.key==p.key))=true:=by simpa using a
   rw[this];rfl
theorem Uo {held:List Pc}(hn:(held.map Pc.key).Nodup)(f:Pc->Bool):((held.filter f).map Pc.key).Nodup:=hn.sublist (List.filter_sublist.map _)
theorem EI {k:Nat}{cls:Int}:∀(l:List Int) {held:List Pc},(held.map Pc.key).Nodup->(∀x∈l,∃p∈held,l8 k cls x p=true)->l.Nodup->xH held k cls l=held.filter λp=>!eI k cls l p
 | [],held,_,_,_=>by
  have:∀p,eI k cls [] p=false:=λp=>by simp[eI]
  exact(qH.2 λp _=>by rw[this];rfl).symm
 | x::l,held,hn,ho,hl=>by
  obtain⟨p,B,A⟩:=ho x aA;obtain⟨i,hi⟩:=pw.1 (LR B A);obtain⟨q,w,j⟩:=WkU hi;have g:=zr.1 hl;have e1:ma k cls held x=held.filter λr=>!(r.key==q.key):=by unfold ma;rw[hi];exact υ hn w
  obtain⟨q1,q2,q3,q4⟩:=Vn.1 j;have m:=EI l (held:=held.filter λr=>!(r.key==q.key)) (Uo hn _) (λy s=>by
   obtain⟨r,u,d⟩:=ho y (by simp[s]);refine⟨r,zL.2 ⟨u,?_⟩,d⟩;have:r.key≠q.key:=λe=>by
    have C:r.addr=q.addr:=congrArg (λz:Key=>z.2.2) e;have:=(Vn.1 d).2.2.1;have:y=x:=by omega
    subst this;exact g.1 s
   simpa using this) g.2
  unfold xH at m ⊢;rw[r7,e1,m,Cu];apply vX;intro r u;have e:(r.key==q.key)=(r.k==k&&(r.cls==cls&&(r.addr:Int)==x)):=by
   rw[kA];simp only[Pc.key,zT,zF,Prod.mk.injEq];constructor
   ·rintro⟨a,b,c⟩;exact⟨O,O,O⟩
   ·rintro⟨a,b,c⟩;exact⟨O,O,O⟩
  rw[e];unfold eI;rw[List.contains_cons];cases r.k==k<;>cases r.cls==cls<;>cases((r.addr:Int)==x)<;>cases l.contains (r.addr:Int)<;>rfl
theorem Kc {held:List Pc}{k:Nat}{cls:Int}{l:List Int}{m:Bool}{p:Pc}:p∈Ge held k cls l m↔∃q∈held,p=if eI k cls l q then{q with eU:=m}else q:=by
 unfold Ge;rw[zE];constructor
 ·rintro⟨q,hq,rfl⟩;exact⟨q,hq,rfl⟩
 ·rintro⟨q,hq,rfl⟩;exact⟨q,hq,rfl⟩
theorem OM {held:List Pc}{k:Nat}{cls:Int}{l:List Int}{m:Bool}:(Ge held k cls l m).map Pc.key=held.map Pc.key:=by
 unfold Ge;rw[lK];apply kh;intro p _;simp only[Function.comp];split<;>rfl
theorem yV (hk:W.bY[k]?=some A)(h:WI W):WI (W.put k A W.sp W.held):=h.l5 hk (St.refl (h.ga k A hk) (h.ow k A hk)) rfl (λ_ _=>Iff.rfl) rfl
theorem N6 (h:GA A){j:Nat}{c:cA}{ss:List cH}(hc:Cl A j c ss){l:Nat}{s:cH}{i:Nat}(hs:ss[l]?=some s)(hi:i<c.n){x:Nat}(h1:at_ c s i<=x)(h2:x<at_ c s i+c.size):Hu A (x:Int)=some ((j:Int),at_ c s i):=by
 have d:=h.cG j c ss hc;have a:=GD d.pos hi h1 h2;have b:=h.used hc (zG hs) a.1 a.2;have g:=h.pg.lt (p:=x/256) (by rw[b.1];omega);have u:=h.pg.n2;have m:=hc.lt;have r:=h.tb;unfold Hu;rw[zB O,dH];simp only;rw[zC (show x/256<1024 by omega),b.2,zB O,zB O,Nat.add_sub_cancel,hc.1,hc.2];simp only;rw[(Il d).2 ⟨l,s,i,hs,hi,rfl,O,O⟩];rfl
theorem J6 (h:GA A){r:Nat×Nat}(hr:r∈A.runs){x:Nat}(h1:r.1*256<=x)(h2:x<(r.1+r.2)*256):Hu A (x:Int)=some (-1,r.1*256):=by
 have a:=h.jG hr (p:=x/256) O O;have b:=h.pg.lt (p:=x/256) (by rw[a.1];omega);have d:=h.pg.n2;unfold Hu;rw[zB O,dH];simp only;rw[zC (show x/256<1024 by omega),a.2,zB O,zC rfl,Di h.pq hr O O];rfl
theorem LM (h:GA A){x:Int}{k:Int}{a:Nat}(hf:Hu A x=some (k,a)):(k = -1/\∃r∈A.runs,a=r.1*256/\((r.1*256:Nat):Int)<=x/\x<(((r.1+r.2)*256:Nat):Int)) ∨
 ∃(j:Nat) (c:cA) (ss:List cH) (l:Nat) (s:cH) (i:Nat),k=j/\Cl A j c ss/\ss[l]?=some s/\i<c.n/\a=at_ c s i/\((at_ c s i:Nat):Int)<=x/\x<((at_ c s i+c.size:Nat):Int):=by
 unfold Hu at hf;split at hf
 ·cases hf
 ·rename_i hx;obtain⟨y,rfl⟩:=zc (show 0<=x by omega);rw[dH]at hf;simp only at hf;by_cases hlt:y/256<1024
  ·rw[zC hlt]at hf;split at hf
   ·cases hf
   ·split at hf
    ·rename_i h0 h41;obtain⟨r,g,b⟩:=od.1 hf;have B:=tK g;have m:=uV g;simp at m;cases b;exact .inl ⟨rfl,r,B,rfl,O,O⟩
    ·rename_i h0 h41;split at hf
     ·rename_i c ss h1 h2;obtain⟨C,w,b⟩:=od.1 hf;cases b;have d:Cl A (A.ow (y/256)-1) c ss:=⟨h1,h2⟩;obtain⟨l,s,i,z,hi,rfl,u,p⟩:=(Il (h.cG _ _ _ d)).1 w;exact .inr ⟨_,c,ss,l,s,i,rfl,d,z,hi,rfl,u,p⟩
     ·cases hf
  ·rw[zB hlt,zC rfl]at hf;cases hf
theorem fU.find (h:GA A){j:Nat}{x:Int}(hx:fU A j x):∃y:Nat,x=y/\Hu A x=some ((j:Int),y):=by
 obtain⟨c,d,a,g⟩:=hx;have b:=h.cG j c d a;obtain⟨l,s,i,m,hi,rfl,p⟩:=(V9 b).1 g;exact⟨_,rfl,N6 h a m hi (zD _) (by have:=b.pos;omega)⟩
theorem Bn (h:GA A){x:Int}:xq A x=true↔(∃j,fU A j x)\/∃r∈A.runs,x=((r.1*256:Nat):Int):=by
 constructor
 ·intro hx;unfold xq at hx;split at hx
  ·rename_i k a d;split at hx
   ·rename_i he;rcases LM h d with⟨rfl,r,hr,rfl,_⟩|⟨j,c,g,l,s,i,rfl,b,hs,hi,rfl,_⟩
    ·exact .inr ⟨r,hr,he.symm⟩
    ·rw[zB O,dH,b.1,b.2]at hx;exact .inl ⟨j,c,g,b,by simpa[Tk]using hx⟩
   ·cases hx
  ·cases hx
 ·rintro(⟨j,hj⟩|⟨r,hr,rfl⟩)
  ·obtain⟨y,rfl,d⟩:=hj.find h;obtain⟨c,g,b,m⟩:=hj;unfold xq;rw[d];simp only;rw[zC True.intro,zB O,dH,b.1,b.2];unfold Tk at m;show(eH c g (y:Int)==some true)=true;rw[m];rfl
  ·unfold xq;have:=h.hO r hr;rw[J6 h hr (zD _) O];simp
theorem WI.xK (h:WI W)(hk:W.bY[k]?=some A){cl:Int}{l:List Int}(ho:jA W.held k cl l=true){j:Nat}(e:cl=j):∀x∈l,¬ic A j x:=by
 intro x hx hin;obtain⟨p,g,a⟩:=(Vo.1 ho).1 x hx;obtain⟨r,i,m,b⟩:=Vn.1 a;obtain⟨c,_,_,_,d⟩:=h.cls g (j:=j) (by rw[i,e]) (by rw[r];exact hk);rw[m]at d;rw[d.2 hin]at b;cases b
theorem WI.grow (h:WI W)(hk:W.bY[k]?=some A)(x:Int):WI (W.put k (cQ A W.sp x).1 (cQ A W.sp x).2 W.held):=by
 obtain⟨s,e1,e2,a,_⟩:=P4 (h.ga k A hk) (h.ow k A hk) x;exact h.l5 hk s e1 a e2
theorem WI.from (h:WI W)(hk:W.bY[k]?=some A)(cl m:Int):WI (W.put k (YQ A cl m) W.sp (W.held++(Yw A cl m).map λy=>⟨k,cl,y,pC W.tb cl,false⟩)):=by
 obtain⟨o,e1,e2,G,E,z⟩:=Le (h.ga k A hk) cl m;have tb:(YQ A cl m).tb=A.tb:=o.kp.tb;have i:∀y∈Yw A cl m,∃j:Nat,cl=j/\j<A.tb.length:=λy g=>G (λe=>by rw[e]at g;simp at g);have w:∀y∈Yw A cl m,∀p∈W.held,¬(p.k=k/\p.cls=cl/\p.addr=y):=by
  rintro y g p d ⟨L,K,H⟩;obtain⟨j,rfl,_⟩:=i y g;obtain⟨c,_,_,ht,_⟩:=h.cls d K (by rw[L];exact hk);rw[H]at ht;exact E y g (by rw[dH];exact ht)
 refine h.step hk (o.st (h.ow k A hk)) ?_ (λp d e=>?_) (λp C=>?_) (λj y g=>?_) λr hr=>?_
 ·rw[zm,nr];refine⟨h.hk,?_,λa F b M e=>?_⟩
  ·rw[lK];exact List.Pairwise.map (R:=(· ≠ ·)) _ (λa b B e=>B (by simpa[Pc.key]using e)) e2
  ·subst e;obtain⟨p,d,rfl⟩:=zE.1 F;obtain⟨q,J,e⟩:=zE.1 M;obtain⟨y,g,rfl⟩:=zE.1 J;simp only[Pc.key,Prod.mk.injEq]at e;exact w y g p d ⟨e.1.symm,e.2.1.symm,e.2.2.symm⟩
 ·rcases zM.1 d with d|d
  ·exact(h.hd hk d e).to tb o.runs (λj y s=>(z j y).2 (.inl s)) λj y=>by unfold ic;rw[e1]
  ·obtain⟨y,g,rfl⟩:=zE.1 d;obtain⟨j,rfl,s⟩:=i y g;refine .inr ⟨j,A.tb[j],rfl,by rw[tb];exact cX s,?_,(z j y).2 (.inr ⟨(dH j).symm,y,g,rfl⟩),?_⟩
   ·show pC W.tb (j:Int)=_;unfold pC;rw[dH,←h.tb k A hk,cX s];rfl
   ·constructor
    ·intro hx;cases hx
    ·rintro⟨t,ht,hx⟩;rw[e1]at ht;obtain⟨c,N,P,D,u⟩:=(h.ga k A hk).cl s;rw[ht]at u;cases u;exact(E y g (by rw[dH];exact(VM D).2 ((h.ga k A hk).mq j c N t D ht _ hx))).elim
 ·rw[zM];constructor
  ·rintro(d|d)
   ·exact d
   ·obtain⟨y,_,rfl⟩:=zE.1 d;exact(C rfl).elim
  ·exact .inl
 ·rcases(z j y).1 g with g|⟨rfl,x,hx,rfl⟩
  ·obtain⟨p,d,q⟩:=h.ht k A hk j y g;exact⟨p,kL _ d,q⟩
  ·obtain⟨j,rfl,_⟩:=i x hx;exact⟨_,oC _ (zE.2 ⟨x,hx,rfl⟩),rfl,by simp,rfl⟩
 ·rw[o.runs]at hr;obtain⟨p,d,q⟩:=h.hr k A hk r hr;exact⟨p,kL _ d,q⟩
theorem WI.yE (h:WI W){cl:Int}{l:List Int}(ho:jA W.held k cl l=true):xH W.held k cl l=W.held.filter λp=>!eI k cl l p:=
 EI l h.hk (Vo.1 ho).1 (Vo.1 ho).2
theorem WI.Nl (h:WI W)(hk:W.bY[k]?=some A){cl:Int}{l:List Int}(ho:jA W.held k cl l=true):WI (W.put k (ZT A cl l) W.sp (if Kr A cl l=0 then xH W.held k cl l else W.held)):=by
 have ga:=h.ga k A hk;obtain⟨o,e1,e2,J⟩:=Ec ga (k:=cl) (xs:=l) λg x m=>by
  obtain⟨j,c,K,rfl,_⟩:=BB ga g;rw[dH];exact h.xK hk ho rfl x m
 by_cases g:Kr A cl l=0
 ·rw[zC g,h.yE ho];obtain⟨j,c,K,rfl,N,M⟩:=BB ga g;have e2:=e2 g;rw[dH]at e2;refine h.step hk (o.st (h.ow k A hk)) (Uo h.hk _) (λp u e=>?_) (λp D=>?_) (λi y H=>?_) λr hr=>?_
  ·have s:=zL.1 u;have B:eI k (j:Int) l p=false:=by simpa using s.2
   rcases h.hd hk s.1 e with⟨h1,h2,r,hr,h3⟩|⟨i,d,h1,h2,h3,h4,h5⟩
   ·exact .inl ⟨h1,h2,r,by rw[o.runs];exact hr,h3⟩
   ·refine .inr ⟨i,d,h1,by rw[o.kp.tb];exact h2,h3,(e2 i _).2 ⟨h4,λ⟨a,b⟩=>?_⟩,by unfold ic at h5 ⊢;rw[e1];exact h5⟩;have:eI k (j:Int) l p=true:=Qv.2 ⟨e,by rw[h1,a],b⟩;rw[B]at this;cases this
  ·rw[zL];have:eI k (j:Int) l p=false:=by
    apply nY.2;intro m;exact D (Qv.1 m).1
   rw[this];simp
  ·obtain⟨C,z⟩:=(e2 i y).1 H;obtain⟨p,u,F,E,w⟩:=h.ht k A hk i y C;refine⟨p,zL.2 ⟨u,?_⟩,F,E,w⟩;have:eI k (j:Int) l p=false:=by
    apply nY.2;intro m;obtain⟨_,L,G⟩:=Qv.1 m;exact z ⟨O,by rw[←w];exact G⟩
   rw[this];rfl
  ·rw[o.runs]at hr;obtain⟨p,u,F,E,w⟩:=h.hr k A hk r hr;refine⟨p,zL.2 ⟨u,?_⟩,F,E,w⟩;have:eI k (j:Int) l p=false:=by
    apply nY.2;intro m;have:=(Qv.1 m).2.1;omega
   rw[this];rfl
 ·rw[zB g,J g];exact yV hk h
theorem WI.move (h:WI W)(hk:W.bY[k]?=some A){B:AR}{j:Nat}{l:List Int}{m:Bool}(o:Ob A B)(e1:∀i y,fU B i y↔fU A i y)(e2:∀i y,ic B i y↔if i=j/\y∈l then m=true else ic A i y):WI (W.put k B W.sp (Ge W.held k (j:Int) l m)):=by
 refine h.step hk (o.st (h.ow k A hk)) (by rw[OM];exact h.hk) (λp a e=>?_) (λp b=>?_) (λi y g=>?_) λr hr=>?_
 ·obtain⟨q,u,rfl⟩:=Kc.1 a;have d:q.k=k:=by
   split at e<;>exact e
  rcases h.hd hk u d with⟨h1,h2,r,hr,h3⟩|⟨i,c,h1,h2,h3,h4,h5⟩
  ·have:eI k (j:Int) l q=false:=by
    apply nY.2;intro hx;have:=(Qv.1 hx).2.1;omega
   rw[this];exact .inl ⟨h1,h2,r,by rw[o.runs];exact hr,h3⟩
  ·by_cases hx:eI k (j:Int) l q=true
   ·rw[zC hx];obtain⟨_,D,C⟩:=Qv.1 hx;have w:i=j:=by omega
    refine .inr ⟨i,c,h1,by rw[o.kp.tb];exact h2,h3,(e1 _ _).2 h4,?_⟩;show m=true↔ic B i (q.addr:Int);rw[e2,zC ⟨w,C⟩]
   ·rw[zB hx];refine .inr ⟨i,c,h1,by rw[o.kp.tb];exact h2,h3,(e1 _ _).2 h4,?_⟩;rw[e2,zB λg=>hx (Qv.2 ⟨d,by rw[h1,g.1],g.2⟩)];exact h5
 ·rw[Kc];constructor
  ·rintro⟨q,u,rfl⟩;have:eI k (j:Int) l q=false:=by
    apply nY.2;intro hx;rw[zC hx]at b;exact b (Qv.1 hx).1
   rw[this];exact u
  ·intro a;refine⟨p,a,?_⟩;have:eI k (j:Int) l p=false:=by
    apply nY.2;intro hx;exact b (Qv.1 hx).1
   rw[this];rfl
 ·obtain⟨p,a,z,x,s⟩:=h.ht k A hk i y ((e1 i y).1 g);refine⟨_,Kc.2 ⟨p,a,rfl⟩,?_,?_,?_⟩
  ·split<;>exact z
  ·split<;>exact x
  ·split<;>exact s
 ·rw[o.runs]at hr;obtain⟨p,a,z,x,s⟩:=h.hr k A hk r hr;refine⟨_,Kc.2 ⟨p,a,rfl⟩,?_,?_,?_⟩
  ·split<;>exact z
  ·split<;>exact x
  ·split<;>exact s
theorem ND {held:List Pc}{k:Nat}{cls:Int}{m:Bool}:Ge held k cls [] m=held:=by
 unfold Ge;have:∀p,eI k cls [] p=false:=λp=>by simp[eI]
 simp[this]
theorem WI.yp (h:WI W)(hk:W.bY[k]?=some A)(cl:Int):WI (W.put k (ZW A cl) W.sp (Ge W.held k cl (YM A cl) false)):=by
 obtain⟨o,e1,e2,s,b,a⟩:=Jd (h.ga k A hk) cl;by_cases hv:YM A cl=[]
 ·rw[hv,ND];have g:∀j y,ic (ZW A cl) j y↔ic A j y:=λj y=>by rw[a,hv];simp
  refine h.step hk (o.st (h.ow k A hk)) h.hk (λp d e=>(h.hd hk d e).to o.kp.tb o.runs (λj y=>(e1 j y).2) g) (λ_ _=>Iff.rfl) (λj y m=>h.ht k A hk j y ((e1 j y).1 m)) λr hr=>h.hr k A hk r (by rw[←o.runs];exact hr)
 ·obtain⟨j,rfl,_⟩:=b hv;rw[dH]at a;exact h.move hk o e1 λi y=>by
   rw[a];split
   ·rename_i hx;simp[hx]
   ·rename_i hx;simp[hx]
theorem WI.LG (h:WI W)(hk:W.bY[k]?=some A){cl:Int}{l:List Int}(ho:jA W.held k cl l=true):WI (W.put k (KB A cl l) W.sp (if VB A cl l then Ge W.held k cl l true else W.held)):=by
 by_cases a:VB A cl l=true
 ·have b:∃j:Nat,cl=j:=by
   have d:H7 A cl l=0:=by
    unfold VB at a;simp only[zF,zV]at a;exact a.1
   have b:A.ck cl=true:=by
    unfold H7 at d;split at d
    ·assumption
    ·cases d
   obtain⟨j,g,_⟩:=Hz.1 b;exact⟨j,g⟩
  obtain⟨j,rfl⟩:=b;obtain⟨o,e1,e2,_⟩:=Ny (h.ga k A hk) (j:Int) (xs:=l) (Vo.1 ho).2 (by rw[dH];exact h.xK hk ho rfl);obtain⟨_,_,e2⟩:=e2 a;rw[dH]at e2;rw[a,zC rfl];exact h.move hk o e1 λi y=>by
   rw[e2];split
   ·rename_i hx;simp[hx]
   ·rename_i hx;simp[hx]
 ·have a:VB A cl l=false:=by simpa using a
  have e:KB A cl l=A:=by unfold KB;rw[a];rfl
  rw[a,e];exact yV hk h
theorem WI.xC (h:WI W)(hk:W.bY[k]?=some A)(m a:Int):WI (W.put k (cC A W.sp m a).1 (cC A W.sp m a).2 (if QZ A W.sp m a=0 then W.held++[⟨k, -1,Qy A W.sp m a*256,m.toNat*256,false⟩]else W.held)):=by
 rcases SU (h.ga k A hk) (h.ow k A hk) m a with⟨e,hE,_⟩|⟨x,A1,sp1,g,hE,hV,e,htk,hor,s,et,ek⟩
 ·rw[zB hE,e];exact yV hk h
 ·rw[zC hE,hV];have z:(cC A W.sp m a).1.runs=A.runs++[(x,m.toNat)]:=by rw[e]
  have u:∀r∈A.runs,r.1≠x:=by
   have hd:=s.ga.kC;rw[z]at hd;intro r hr e2;have w:=(qE.1 hd).2.2 r hr (x,m.toNat) aA;have B:=(h.ga k A hk).hO r hr;have i:=s.ga.hO (x,m.toNat) (by rw[z];simp);simp only at w i;omega
  refine h.step hk s ?_ (λp g e=>?_) (λp C=>?_) (λj y D=>?_) λr hr=>?_
  ·rw[zm,nr];refine⟨h.hk,by simp,λb E d hd e2=>?_⟩;subst e2;obtain⟨p,g,rfl⟩:=zE.1 E;simp only[zR,qh,zN,Pc.key,Prod.mk.injEq]at hd;obtain⟨_,r,hr,i,_⟩:=h.run g hd.2.1 (A:=A) (by rw[hd.1];exact hk);exact u r hr O
  ·rcases zM.1 g with g|g
   ·rcases h.hd hk g e with⟨w,B,r,hr,i⟩|⟨j,c,w,B,i,h4,h5⟩
    ·exact .inl ⟨w,B,r,by rw[z];exact kL _ hr,i⟩
    ·exact .inr ⟨j,c,w,by rw[s.tb];exact B,i,(ek _ _).2 h4,by unfold ic at h5 ⊢;rw[et];exact h5⟩
   ·simp only[zN]at g;subst g;exact .inl ⟨rfl,rfl,(x,m.toNat),by rw[z];simp,rfl,rfl⟩
  ·rw[zM];constructor
   ·rintro(g|g)
    ·exact g
    ·simp only[zN]at g;subst g;exact(C rfl).elim
   ·exact .inl
  ·obtain⟨p,g,q⟩:=h.ht k A hk j y ((ek j y).1 D);exact⟨p,kL _ g,q⟩
  ·rw[z]at hr;rcases zM.1 hr with hr|hr
   ·obtain⟨p,g,q⟩:=h.hr k A hk r hr;exact⟨p,kL _ g,q⟩
   ·simp only[zN]at hr;subst hr;exact⟨_,oC _ (zN.2 rfl),rfl,rfl,rfl⟩
theorem WI.m9 (h:WI W)(hk:W.bY[k]?=some A){r:Nat×Nat}(hr:r∈A.runs):jA W.held k (-1) [(r.1:Int)*256]=true:=by
 refine Vo.2 ⟨λx g=>?_,by simp⟩;simp only[zN]at g;subst g;obtain⟨p,a,d,b,i⟩:=h.hr k A hk r hr;exact⟨p,a,Vn.2 ⟨d,b,O,(h.run a b (by rw[d];exact hk)).1⟩⟩
theorem WI.wU (h:WI W)(hk:W.bY[k]?=some A)(x:Int):WI (W.put k (Q8 A x) W.sp (if Vw A x=0 then xH W.held k (-1) [x*256]else W.held)):=by
 have ga:=h.ga k A hk;obtain⟨⟨kp,g⟩,K,G,e1,e2⟩:=ο ga x;by_cases h0:Vw A x=0
 ·rw[zC h0];obtain⟨r,hr,rfl,H⟩:=e2 h0;rw[h.yE (h.m9 hk hr)];have m:∀p:Pc,eI k (-1) [(r.1:Int)*256] p=true↔p.k=k/\p.cls = -1/\p.addr=r.1*256:=λp=>by
   rw[Qv];simp only[zN];constructor
   ·rintro⟨a,b,c⟩;exact⟨a,b,O⟩
   ·rintro⟨a,b,c⟩;exact⟨a,b,O⟩
  refine h.step hk (St.kp g (h.ow k A hk) kp) (Uo h.hk _) (λp w e=>?_) (λp D=>?_) (λi y L=>?_) λq d=>?_
  ·have s:=zL.1 w;have u:¬eI k (-1) [(r.1:Int)*256] p=true:=by simpa using s.2
   rw[m]at u;rcases h.hd hk s.1 e with⟨h1,h2,q,d,z⟩|⟨j,c,h1,h2,z,J,C⟩
   ·refine .inl ⟨h1,h2,q,?_,z⟩;rw[H,zL];refine⟨d,?_⟩;have:q≠r:=by rintro rfl;exact u ⟨e,h1,z.1⟩
    simpa using this
   ·exact .inr ⟨j,c,h1,by rw[kp.tb];exact h2,z,(G _ _).2 J,by unfold ic at C ⊢;rw[K];exact C⟩
  ·rw[zL];have:eI k (-1) [(r.1:Int)*256] p=false:=by
    apply nY.2;intro hx;exact D (Qv.1 hx).1
   rw[this];simp
  ·obtain⟨p,w,F,E,B⟩:=h.ht k A hk i y ((G i y).1 L);refine⟨p,zL.2 ⟨w,?_⟩,F,E,B⟩;have:eI k (-1) [(r.1:Int)*256] p=false:=by
    apply nY.2;intro hx;have:=((m p).1 hx).2.1;omega
   rw[this];rfl
  ·rw[H,zL]at d;obtain⟨p,w,F,E,B⟩:=h.hr k A hk q d.1;refine⟨p,zL.2 ⟨w,?_⟩,F,E,B⟩;have:eI k (-1) [(r.1:Int)*256] p=false:=by
    apply nY.2;intro hx;have z:=((m p).1 hx).2.2;have J:=ga.hO q d.1;have C:=ga.hO r hr;have:q=r:=ga.gU d.1 hr (x:=q.1) O O O O;subst this;simp at d
   rw[this];rfl
 ·rw[zB h0,e1 h0];exact yV hk h
theorem WI.tick (h:WI W)(hk:W.bY[k]?=some A):WI (W.put k (sO A) W.sp (A4 (W.bY.set k (sO A)) W.held)):=by
 have ga:=h.ga k A hk;have t:=Ot ga;have s:=(cY.1 hk).1;have d:(W.bY.set k (sO A))[k]?=some (sO A):=zO s;have bT:∀p∈W.held,p∈A4 (W.bY.set k (sO A)) W.held↔(p.k=k->∀j:Nat,p.cls=j->fU (sO A) j (p.addr:Int)):=by
  intro p a;unfold A4;rw[zL];simp only[a,tI,nI,mI];by_cases hpk:p.k=k
  ·rw[hpk,d];simp only[true_implies];rcases h.hd hk a hpk with⟨h1,h2,r,hr,h3⟩|⟨j,c,h1,h2,h3,h4,h5⟩
   ·exact⟨λ_ j w=>O,λ_=>.inl h2⟩
   ·constructor
    ·intro hx i hi;obtain rfl:i=j:=by omega
     rcases hx with hx|hx
     ·refine(t.tk i _).2 ⟨h4,λm=>?_⟩;rw[h5.2 m]at hx;cases hx
     ·rcases(Bn t.ob.ga).1 hx with⟨j',hj'⟩|⟨r,hr,e⟩
      ·obtain⟨y,e,hf⟩:=((t.tk j' _).1 hj').1.find ga;obtain⟨G,H,b⟩:=h4.find ga;rw[hf]at b;have:j'=i:=by
        have:=congrArg Prod.fst (Option.some.inj b);simp only at this;omega
       rw[←this];exact hj'
      ·rw[t.ob.runs]at hr;have:=ga.hO r hr;have J:=J6 ga hr (x:=r.1*256) (zD _) O;obtain⟨G,H,b⟩:=h4.find ga;rw[e,J]at b;have:=congrArg Prod.fst (Option.some.inj b);simp only at this;omega
    ·intro hx;by_cases hm:p.eU=true
     ·exact .inr ((Bn t.ob.ga).2 (.inl ⟨j,hx j h1⟩))
     ·exact .inl (by simpa using hm)
  ·constructor
   ·intro _ hx;exact(hpk hx).elim
   ·intro _;obtain⟨C,F,K⟩:=h.hf p a;rw[zh (Ne.symm hpk),F];rcases K with⟨h1,h2,_⟩|⟨j,c,_,_,_,h4,_⟩
    ·exact .inl h2
    ·exact .inr ((Bn (h.ga _ C F)).2 (.inl ⟨j,h4⟩))
 have sub:∀p,p∈A4 (W.bY.set k (sO A)) W.held->p∈W.held:=λp a=>(zL.1 a).1;refine h.step hk (t.ob.st (h.ow k A hk)) (Uo h.hk _) (λp a e=>?_) (λp z=>⟨sub p,λa=>(bT p a).2 λe=>(z e).elim⟩) (λj y E=>?_) λr hr=>?_
 ·have u:=(bT p (sub p a)).1 a e;rcases h.hd hk (sub p a) e with⟨h1,h2,r,hr,h3⟩|⟨j,c,h1,h2,h3,h4,h5⟩
  ·exact .inl ⟨h1,h2,r,by rw[t.ob.runs];exact hr,h3⟩
  ·have w:=u j h1;refine .inr ⟨j,c,h1,by rw[t.ob.kp.tb];exact h2,h3,w,?_⟩;rw[h5];exact⟨((t.tk j _).1 w).2,t.sub j _⟩
 ·obtain⟨p,a,D,B,g⟩:=h.ht k A hk j y ((t.tk j y).1 E).1;refine⟨p,(bT p a).2 λ_ i hi=>?_,D,B,g⟩;obtain rfl:i=j:=by omega
  rw[g];exact E
 ·rw[t.ob.runs]at hr;obtain⟨p,a,D,B,g⟩:=h.hr k A hk r hr;exact⟨p,(bT p a).2 λ_ i hi=>O,D,B,g⟩
theorem WI.qc (h:WI W){p:Pc}(hp:p∈W.held)(hk:W.bY[p.k]?=some A){x:Nat}(h1:p.addr<=x)(h2:x<p.addr+p.size):A.f (x/256)=1:=by
 have ga:=h.ga _ A hk;rcases h.hd hk hp rfl with⟨_,_,r,hr,e1,e2⟩|⟨j,c,_,hc,e1,ht,_⟩
 ·exact(ga.jG hr O O).1
 ·obtain⟨b,m,a,d⟩:=ht;have:b=c:=Option.some.inj (a.1.symm.trans hc);subst this;have g:=ga.cG j b m a;obtain⟨l,s,i,u,hi,e,_⟩:=(V9 g).1 d;have w:p.addr=at_ b s i:=Int.ofNat.inj e;have:=GD g.pos hi (s:=s) (x:=x) O O;exact(ga.used a (zG u) this.1 this.2).1
theorem WI.write (h:WI W){x v:Int}(hi:JU W.held x=true):WI {W with sp:=ZD W.sp x v}:=by
 unfold JU at hi;rw[zy]at hi;obtain⟨p,i,s⟩:=hi;simp only[zF,zV]at s;obtain⟨y,rfl⟩:=zc (show 0<=x by omega);obtain⟨A,hk,_⟩:=h.hf p i;have w:=h.qc i hk (x:=y) O O;have r:=(h.ow _ A hk).own (y/256) O;by_cases hacc:eO W.sp (y:Int)=0
 ·have e:(ZD W.sp (y:Int) v).st=W.sp.st.set (y/256) 2:=by
   unfold ZD;rw[zC hacc];show W.sp.st.set (_/32) 2=_;rw[dH,show y/8/32=y/256 by omega]
  have g:=Jw r;have d:∀q,gf (ZD W.sp (y:Int) v).st q=if q=y/256 then 2 else gf W.sp.st q:=λq=>by
   rw[e];unfold gf;simp only[zQ];by_cases a:q=y/256
   ·subst a;rw[zO g,zC rfl];rfl
   ·rw[zh (Ne.symm a),zB a]
  have m:∀q,gf (ZD W.sp (y:Int) v).st q≠0↔gf W.sp.st q≠0:=λq=>by
   rw[d];split
   ·rename_i a;subst a;simp[r]
   ·exact Iff.rfl
  refine⟨h.ga,λj C b=>?_,h.tb,h.low,λq a=>h.own q ((m q).1 a),h.one,h.hk,h.hf,h.ht,h.hr⟩;have o:=h.ow j C b;refine⟨by show(ZD W.sp (y:Int) v).st.length=_;rw[e,pn];exact o.l,λq a=>(m q).2 (o.own q a),λq a=>?_,λq=>?_⟩
  ·show gf (ZD W.sp (y:Int) v).st q=1;rw[d,zB]
   ·exact o.cl q a
   ·rintro rfl;have u:j=p.k:=h.one (y/256) j p.k C A b hk O O;subst u;rw[hk]at b;cases b;omega
  ·show gf (ZD W.sp (y:Int) v).st q<=2;rw[d];have:=o.le q;split<;>omega
 ·have e:ZD W.sp (y:Int) v=W.sp:=by unfold ZD;rw[zB hacc]
  rw[e];exact h
theorem fU.lt (h:GA A){j:Nat}{x:Int}(hx:fU A j x):∃y:Nat,x=y/\y<262144:=by
 obtain⟨c,g,d,m⟩:=hx;have a:=h.cG j c g d;obtain⟨l,s,i,r,hi,rfl,w⟩:=(V9 a).1 m;have b:=GD a.pos (s:=s) (x:=at_ c s i) hi (zD _) (by have:=a.pos;omega);have u:=(h.used d (zG r) b.1 b.2).1;have:=h.pg.lt (p:=at_ c s i/256) O;have:=h.pg.n2;exact⟨_,rfl,O⟩
theorem WI.jR (h:WI W){p:Pc}(hp:p∈W.held):p.addr<262144/\p.addr+p.size<=270000:=by
 obtain⟨A,d,i⟩:=h.hf p hp;have ga:=h.ga _ A d;have x:=ga.pg.n2;rcases i with⟨_,_,r,hr,h1,h2⟩|⟨j,c,_,hc,h2,h3,_⟩
 ·have s:=ga.fit hr;have w:=ga.hO r hr;omega
 ·obtain⟨y,e,u⟩:=h3.lt ga;obtain⟨g,m,a,_⟩:=h3;have:g=c:=Option.some.inj (a.1.symm.trans hc);subst this;have b:=(ga.cG j _ m a).ok;unfold cA.ok at b;omega
theorem Jg:∀(N:Nat) (l:List Nat),l.Nodup->(∀x∈l,x<N)->l.length<=N
 | 0,l,_,h=>by
  cases l with
  | nil=>simp
  | cons x l=>have:=h x aA;omega
 | N+1,l,hn,h=>by
  have i:=Jg N (l.filter (· != N)) (hn.sublist uT) λx b=>by
   have b:=zL.1 b;have:=h x b.1;have:x≠N:=by simpa using b.2
   omega
  have d:=List.length_eq_countP_add_countP (l:=l) (p:=(· != N));have g:l.countP (λa=>¬(a != N)=true)<=1:=by
   have e:l.countP (λa=>¬(a != N)=true)=l.count N:=by
    unfold List.count;apply List.countP_congr;intro x _;simp
   rw[e];exact Dw.1 hn N
  rw[Aw]at d;omega
theorem WI.apart (h:WI W){p q:Pc}(hp:p∈W.held)(hq:q∈W.held){x:Nat}(p1:p.addr<=x)(p2:x<p.addr+p.size)(q1:q.addr<=x)(q2:x<q.addr+q.size):p=q:=by
 obtain⟨A,y,J⟩:=h.hf p hp;obtain⟨B,m,C⟩:=h.hf q hq;have e1:=h.qc hp y p1 p2;have e2:=h.qc hq m q1 q2;have z:p.k=q.k:=h.one (x/256) p.k q.k A B y m O O;rw[←z,y]at m;cases m;have ga:=h.ga _ A y;have F:=ga.tb;have own:∀{r:Pc},Hd A r->r.addr<=x->x<r.addr+r.size->(r.cls = -1/\A.ow (x/256)=41/\∃u∈A.runs,r.addr=u.1*256/\u.1<=x/256/\x/256<u.1+u.2) ∨
  ∃(j:Nat) (c:cA) (b:List cH) (l:Nat) (s:cH) (i:Nat),r.cls=j/\A.ow (x/256)=j+1/\Cl A j c b/\b[l]?=some s/\i<c.n/\r.addr=at_ c s i/\r.size=c.size:=by
  intro r hr r1 r2;rcases hr with⟨c1,_,u,hu,c2,c3⟩|⟨j,c,c1,c2,c3,c4,_⟩
  ·exact .inl ⟨c1,(ga.jG hu O O).2,u,hu,c2,O,O⟩
  ·obtain⟨d,b,a,G⟩:=c4;have:d=c:=Option.some.inj (a.1.symm.trans c2);subst this;have E:=ga.cG j d b a;obtain⟨l,s,i,D,hi,e,_⟩:=(V9 E).1 G;have H:r.addr=at_ d s i:=Int.ofNat.inj e;have g:=GD E.pos (s:=s) (x:=x) hi O O;exact .inr ⟨j,d,b,l,s,i,c1,(ga.used a (zG D) g.1 g.2).2,a,D,hi,H,c3⟩
 refine h.unique hp hq ?_;rcases own J p1 p2 with⟨a1,a2,u,hu,a3,a4,a5⟩|⟨j,c,b,l,s,i,a1,a2,a3,a4,a5,a6,a7⟩
 ·rcases own C q1 q2 with⟨b1,b2,w,hw,b3,b4,b5⟩|⟨j',d,ss',l',s',i',b1,b2,b3,b4,b5,b6,b7⟩
  ·have:=ga.gU hu hw a4 a5 b4 b5;subst this;unfold Pc.key;rw[z,a1,b1,a3,b3]
  ·have:=b3.lt;omega
 ·rcases own C q1 q2 with⟨b1,b2,w,hw,b3,b4,b5⟩|⟨j',d,ss',l',s',i',b1,b2,b3,b4,b5,b6,b7⟩
  ·have:=a3.lt;omega
  ·have K:j=j':=by omega
   subst K;obtain⟨rfl,rfl⟩:=a3.eq b3;have:=UL (ga.cG j c b a3) a4 b4 a5 b5 (x:=x) O O O O;unfold Pc.key;rw[z,a1,b1,a6,b6,this.2.1,this.2.2]
theorem WI.size_pos (h:WI W){p:Pc}(hp:p∈W.held):8<=p.size/\p.size%8=0:=by
 obtain⟨A,d,i⟩:=h.hf p hp;have ga:=h.ga _ A d;rcases i with⟨_,_,r,hr,h1,h2⟩|⟨j,c,_,hc,h2,h3,_⟩
 ·have s:=ga.hO r hr;omega
 ·obtain⟨g,m,a,_⟩:=h3;have:g=c:=Option.some.inj (a.1.symm.trans hc);subst this;have b:=(ga.cG j _ m a).ok;unfold cA.ok at b;omega
theorem WI.len (h:WI W):W.held.length<=262144:=by
 have s:(W.held.map (·.addr)).Nodup:=by
  have g:=my.1 h.hk;refine my.2 λi j hi u d e=>?_;have a:i<W.held.length:=by simpa using hi
  have b:j<W.held.length:=by simpa using u
  refine g i j (by simpa using a) (by simpa using b) d ?_;simp only[ua]at e ⊢;have s1:=(h.size_pos (kv a)).1;have s2:=(h.size_pos (kv b)).1;rw[h.apart (kv a) (kv b) (x:=W.held[i].addr) (zD _) O O O]
 have:=Jg 262144 _ s λx m=>by
  obtain⟨p,r,rfl⟩:=zE.1 m;exact(h.jR r).1
 simpa using this
end Go.Ar
namespace Go.Ar
open Go.Vc (bU dA cO)
def mA (live:List (Int×Bk))(k x:Int):Nat:=live.countP λe=>e.2.2.2.1==k&&e.1==x
def l4 (ls:List Li)(k x:Int):Nat:=if 0<=k then(ls.getD k.toNat iq).os.count x else 0
def mf (bs:List Bt)(k x:Int):Nat:=(bs.map λb=>if(b.1:Int)=k then b.2.count x else 0).sum
def jN (p:Option Ph)(k x:Int):Nat:=match p with
 | some (.dG s _)=>if k = -1/\x=s*256 then 1 else 0
 | _=>0
def gT (g:Th)(k x:Int):Nat:=l4 g.ls k x+mf g.bQ k x+jN g.ph k x
def qW (H:Hw)(k x:Int):Nat:=mA H.live k x+(H.bR.map λg=>gT g k x).sum
def Um (held:List Pc)(k x:Int):Prop:=∃p∈held,p.eU=false/\p.cls=k/\(p.addr:Int)=x
open Classical in
noncomputable def lx (held:List Pc)(k x:Int):Nat:=if Um held k x then 1 else 0
theorem ES (held:List Pc)(k x:Int):lx held k x<=1:=by unfold lx;split<;>omega
theorem CF {held:List Pc}{k x:Int}(h:1<=lx held k x):Um held k x:=by
 unfold lx at h;split at h
 ·assumption
 ·omega
theorem VZ {held:List Pc}{k x:Int}(h:Um held k x):lx held k x=1:=by unfold lx;rw[zC h]
theorem KT {held:List Pc}{k x:Int}(h:¬Um held k x):lx held k x=0:=by unfold lx;rw[zB h]
theorem ER {l:List Int}(hn:l.Nodup)(x:Int):l.count x=if x∈l then 1 else 0:=by
 split
 ·rename_i h;have b:=Dw.1 hn x;have a:=DD.2 h;omega
 ·rename_i h;exact As.2 h
theorem Bf {held held':List Pc}{cl:Int}{l:List Int}(hn:l.Nodup)(h0:∀x∈l,¬Um held cl x)(h:∀k x,Um held' k x↔Um held k x\/(k=cl/\x∈l))(k x:Int):lx held' k x=lx held k x+(if cl=k then l.count x else 0):=by
 by_cases hk:cl=k
 ·subst hk;rw[zC rfl,ER hn];by_cases hx:x∈l
  ·rw[zC hx,KT (h0 x hx),VZ ((h _ _).2 (.inr ⟨rfl,hx⟩))]
  ·rw[zB hx,ko];by_cases hu:Um held cl x
   ·rw[VZ hu,VZ ((h _ _).2 (.inl hu))]
   ·rw[KT hu,KT λa=>by rcases(h _ _).1 a with a|⟨_,a⟩;exact hu a;exact hx a]
 ·rw[zB hk,ko];by_cases hu:Um held k x
  ·rw[VZ hu,VZ ((h _ _).2 (.inl hu))]
  ·rw[KT hu,KT λa=>by rcases(h _ _).1 a with a|⟨a,_⟩;exact hu a;exact hk a.symm]
theorem IE {held held':List Pc}{cl:Int}{l:List Int}(hn:l.Nodup)(h0:∀x∈l,Um held cl x)(h:∀k x,Um held' k x↔Um held k x/\¬(k=cl/\x∈l))(k x:Int):lx held k x=lx held' k x+(if cl=k then l.count x else 0):=by
 by_cases hk:cl=k
 ·subst hk;rw[zC rfl,ER hn];by_cases hx:x∈l
  ·rw[zC hx,VZ (h0 x hx),KT λa=>((h _ _).1 a).2 ⟨rfl,hx⟩]
  ·rw[zB hx,ko];by_cases hu:Um held cl x
   ·rw[VZ hu,VZ ((h _ _).2 ⟨hu,λa=>hx a.2⟩)]
   ·rw[KT hu,KT λa=>hu ((h _ _).1 a).1]
 ·rw[zB hk,ko];by_cases hu:Um held k x
  ·rw[VZ hu,VZ ((h _ _).2 ⟨hu,λa=>hk a.1.symm⟩)]
  ·rw[KT hu,KT λa=>hu ((h _ _).1 a).1]
theorem Ex {α:Type}(f:α->Nat):∀{l:List α} {t:Nat} {g:α} (g':α),l[t]?=some g->((l.set t g').map f).sum+f g=(l.map f).sum+f g'
 | [],t,g,g',h=>by simp at h
 | a::l,0,g,g',h=>by
  simp only[yL,Option.some.injEq]at h;subst h;simp only[List.set_cons_zero,zR,oD];omega
 | a::l,t+1,g,g',h=>by
  have:=Ex f (l:=l) (t:=t) g' (by simpa using h);simp only[sk,zR,oD];omega
theorem Bv {α:Type}(f:α->Nat){l:List α}{g:α}(h:g∈l):f g<=(l.map f).sum:=by
 induction l with
 | nil=>simp at h
 | cons a l ih=>
  simp only[zR,oD];rcases zW.1 h with rfl|h
  ·omega
  ·have:=ih h;omega
theorem xZ (ls:List Li)(k:Nat)(x:Int):l4 ls (k:Int) x=(ls.getD k iq).os.count x:=by
 unfold l4;rw[zC O,dH]
theorem EB {ls:List Li}{j:Nat}(l:Li)(k:Nat)(h:j<ls.length):(ls.set j l).getD k iq=if k=j then l else ls.getD k iq:=by
 rw[zQ,nJ];by_cases hkj:k=j
 ·subst hkj;simp[h]
 ·rw[zB hkj,zB (Ne.symm hkj),zQ]
theorem Ma {ls:List Li}{j:Nat}(l:Li)(h:j<ls.length)(k x:Int):l4 (ls.set j l) k x+(if(j:Int)=k then(ls.getD j iq).os.count x else 0)=l4 ls k x+(if(j:Int)=k then l.os.count x else 0):=by
 by_cases hk:0<=k
 ·obtain⟨k,rfl⟩:=zc hk;rw[xZ,xZ,EB l k h];by_cases hjk:j=k
  ·subst hjk;simp;omega
  ·have:¬(j:Int)=(k:Int):=by omega
   rw[zB (Ne.symm hjk),zB this,zB this]
 ·unfold l4;rw[zB hk,zB hk,zB O,zB O]
theorem V3 (k x:Int):mf [] k x=0:=rfl
theorem Vj (b:Bt)(bs:List Bt)(k x:Int):mf (b::bs) k x=(if(b.1:Int)=k then b.2.count x else 0)+mf bs k x:=by
 unfold mf;rw[zR,oD]
theorem Fs (a b:List Bt)(k x:Int):mf (a++b) k x=mf a k x+mf b k x:=by
 unfold mf;rw[zm,List.sum_append]
theorem EE {f:cA->Li->List Int×Li}(hf:∀c l x,(f c l).1.count x+(f c l).2.os.count x=l.os.count x){tb:List cA}{ls:List Li}(hl:ls.length=tb.length)(k x:Int):mf (KH f tb ls) k x+l4 (KC f tb ls) k x=l4 ls k x:=by
 have key:∀n,n<=tb.length->mf ((List.range n).filterMap λk=>match tb[k]?,ls[k]? with
  | some c,some l=>if(f c l).1=[]then none else some (k,(f c l).1)
  | _,_=>none) k x=if 0<=k/\k<(n:Int)then(match tb[k.toNat]?,ls[k.toNat]? with
  | some c,some l=>(f c l).1.count x
  | _,_=>0)else 0:=by
  intro n
  induction n with
  | zero=>intro _;rw[zB O];rfl
  | succ n i=>
   intro hn;have i:=i O;rw[qF,wB,Fs,i];have d:tb[n]?=some tb[n]:=cX O;have a:ls[n]?=some ls[n]:=cX O;have e:mf ([n].filterMap λk=>match tb[k]?,ls[k]? with
    | some c,some l=>if(f c l).1=[]then none else some (k,(f c l).1)
    | _,_=>none) k x=if(n:Int)=k then(f tb[n] ls[n]).1.count x else 0:=by
    rw[Cj,d,a];simp only;by_cases he:(f tb[n] ls[n]).1=[]
    ·rw[zC he,he];simp[V3]
    ·rw[zB he];simp only[List.filterMap_nil,Vj,V3,ko]
   rw[e];by_cases b:0<=k/\k<(n:Int)
   ·rw[zC b,zB (show ¬(n:Int)=k by omega),ko,zC (show 0<=k/\k<((n+1:Nat):Int)from⟨b.1,O⟩)]
   ·rw[zB b,zH];by_cases g:(n:Int)=k
    ·subst g;rw[zC rfl,zC (show(0:Int)<=(n:Int)/\(n:Int)<((n+1:Nat):Int)from⟨O,O⟩),dH,d,a]
    ·rw[zB g,zB O]
 have b:=key tb.length (zD _);have e:KH f tb ls=(List.range tb.length).filterMap λk=>match tb[k]?,ls[k]? with
  | some c,some l=>if(f c l).1=[]then none else some (k,(f c l).1)
  | _,_=>none:=rfl
 rw[e,b];by_cases hk:0<=k
 ·obtain⟨k,rfl⟩:=zc hk;rw[xZ,xZ,dH];by_cases hkl:k<tb.length
  ·have d:tb[k]?=some tb[k]:=cX hkl;have a:ls[k]?=some ls[k]:=cX O;rw[zC ⟨O,O⟩,d,a];simp only;have:(KC f tb ls).getD k iq=(f tb[k] ls[k]).2:=by
    unfold KC;rw[zQ,Da,d,a];rfl
   rw[this,zQ,a];exact hf _ _ _
  ·rw[zB O,zH];have b:(KC f tb ls).getD k iq=iq:=by
    unfold KC;rw[zQ,zX (by rw[List.length_zipWith];omega)];rfl
   have g:ls.getD k iq=iq:=by rw[zQ,zX O];rfl
   rw[b,g]
 ·rw[zB O,zH];unfold l4;rw[zB hk,zB hk]
theorem Cx (m:Nat)(l:Li)(x:Int):(gM m l).1.count x+(gM m l).2.os.count x=l.os.count x:=by
 show(l.os.take m).count x+(l.os.drop m).count x=_;rw[←wK,n4]
theorem Oe (c:cA)(l:Li)(x:Int):(Vp c l).1.count x+(Vp c l).2.os.count x=l.os.count x:=Cx _ l x
theorem RT (c:cA)(l:Li)(x:Int):(Z4 c l).1.count x+(Z4 c l).2.os.count x=l.os.count x:=Cx _ l x
theorem LW (c:cA)(y:Int)(l:Li)(hl:l.os.length<=255)(x:Int):(dM c y l).1.count x+(dM c y l).2.os.count x=l.os.count x + [y].count x:=by
 have a:(eL [y] l).os=l.os++[y]:=by
  unfold eL;rw[zB aE]
 unfold dM;rw[zB O];split
 ·rw[a,List.count_nil,zH,wK]
 ·rw[Cx];have:(mN c (eL [y] l)).os=(eL [y] l).os:=by unfold mN;split<;>rfl
  rw[this,a,wK]
theorem I5 {c:cA}{l l':Li}{y:Int}(h:KI c l=(some y,l'))(x:Int):l.os.count x=l'.os.count x + [y].count x:=by
 unfold KI at h;split at h
 ·simp at h
 ·rename_i z hz;cases h;have:l.os=l.os.dropLast++[y]:=by
   obtain⟨b,a⟩:=List.getLast?_eq_some_iff.1 hz;rw[a];simp
  conv=>lhs;rw[this]
  rw[wK]
theorem Oy {c:cA}{l l':Li}(h:KI c l=(none,l')):l.os=[]/\l'.os=[]:=by
 unfold KI at h;split at h
 ·rename_i hz;have:l.os=[]:=by simpa using hz
  cases h;refine⟨this,?_⟩;split<;>exact this
 ·simp at h
theorem B3 {live:List (Int×Bk)}{x:Int}(b:Bk)(h:bU live x=none)(k y:Int):mA (dA live x b) k y=mA live k y+(if b.2.2.1=k then[x].count y else 0):=by
 have a:live.any (λe=>e.1==x)=false:=by
  rw[mr];intro e he hx;unfold bU at h;rw[tx,og]at h;exact h e he hx
 unfold dA;rw[a,zB aA];unfold mA;rw[List.countP_append]
 congr 1
 rw[xy,List.countP_nil,zH];by_cases h1:b.2.2.1=k
 ·by_cases h2:x=y
  ·subst h2;simp[h1]
  ·simp[h1,h2]
 ·simp[h1]
theorem yI {live:List (Int×Bk)}{x:Int}{b:Bk}(h:bU live x=none){e:Int×Bk}:e∈dA live x b↔e∈live\/e=(x,b):=by
 have a:live.any (λe=>e.1==x)=false:=by
  rw[mr];intro e he hx;unfold bU at h;rw[tx,og]at h;exact h e he hx
 unfold dA;rw[a,zB aA,zM,zN]
theorem Au {live:List (Int×Bk)}{x:Int}{e:Int×Bk}:e∈cO live x↔e∈live/\e.1≠x:=by
 unfold cO;rw[zL];simp
theorem Ea:∀{live:List (Int×Bk)} {x:Int} {b:Bk},(live.map (·.1)).Nodup->bU live x=some b->∀k y,mA live k y=mA (cO live x) k y+(if b.2.2.1=k then[x].count y else 0)
 | [],x,b,_,h,_,_=>by simp[bU]at h
 | e::l,x,b,hn,h,k,y=>by
  rw[zR,zr]at hn;by_cases he:e.1=x
  ·have hb:e.2=b:=by
    unfold bU at h;rw[List.find?_cons_of_pos (by simpa using he)]at h;simpa using h
   have hd:cO (e::l) x=l:=by
    unfold cO;rw[vq (by simpa using he),qH];intro a ha;have:a.1≠x:=λg=>hn.1 (zE.2 ⟨a,ha,g.trans he.symm⟩);simpa using this
   rw[hd];unfold mA;rw[xy,hb,he]
   congr 1
   by_cases h1:b.2.2.1=k
   ·by_cases h2:x=y
    ·subst h2;simp[h1]
    ·simp[h1,h2]
   ·simp[h1]
  ·have i:bU l x=some b:=by
    unfold bU at h ⊢
    rwa [List.find?_cons_of_neg (by simpa using he)]at h
   have d:=Ea hn.2 i k y;have hd:cO (e::l) x=e::cO l x:=by
    unfold cO;rw[vn (by simpa using he)]
   rw[hd];unfold mA at d ⊢;rw[xy,xy,d];omega
theorem FD {live:List (Int×Bk)}{e:Int×Bk}(h:e∈live):1<=mA live e.2.2.2.1 e.1:=by
 unfold mA;exact List.countP_pos_iff.2 ⟨e,h,by simp⟩
structure jF (s s':Sp):Prop where
 l:s'.st.length=s.st.length
 z:∀p,gf s'.st p=0↔gf s.st p=0
 w:s'.wd=s.wd
def iy (m:Nat)(g:Th):Prop:=match g.ph with
 | none=>g.bQ=[]
 | some (.take k)=>g.bQ=[]/\k<m
 | some (.cI k w)=>g.bQ=[]/\k<m/\(g.li k).os=[]/\1<=w/\w<=32
 | some (.cL k w)=>g.bQ=[]/\k<m/\(g.li k).os=[]/\1<=w/\w<=32
 | some (.grow k w)=>g.bQ=[]/\k<m/\(g.li k).os=[]/\1<=w/\w<=32
 | some .fill=>∃k x xs,g.bQ=[(k,x::xs)]/\k<m/\(g.li k).os=[]/\xs.length<=128
 | some (.eP n)=>g.bQ=[]/\1<=n/\n<=64
 | some (.find x)=>g.bQ=[]/\iN x
 | some (.put k x)=>g.bQ=[(k,[x])]/\k<m
 | some .back=>g.bQ≠[]
 | some (.dG _ _)=>g.bQ=[]
 | some .drain=>g.bQ=[]
structure tP (m:Nat) (g:Th):Prop where
 ll:g.ls.length=m
 lo:∀l∈g.ls,fQ l/\l.os.length<=128
 hb:∀b∈g.bQ,b.1<m/\b.2≠[]/\b.2.length<=256
 hl:g.bQ.length<=41
 ph:iy m g
def Lv (held:List Pc)(e:Int×Bk):Prop:=e.2.1=e.1/\∃p∈held,p.eU=false/\p.cls=e.2.2.2.1/\(p.addr:Int)=e.1/\e.2.2.1=(p.size:Int)/\e.2.2.2.2=(p.k:Int)
def Gv (held:List Pc)(s a:Int):Prop:=∃p∈held,p.eU=false/\p.cls = -1/\(p.addr:Int)=s*256/\a=(p.k:Int)
structure HI (H:Hw) (held:List Pc) (s0:Sp):Prop where
 wi:WI ⟨H.tb,s0,H.bY,held⟩
 na:jF s0 H.sp
 cn:∀k x,qW H k x=lx held k x
 lk:(H.live.map (·.1)).Nodup
 lv:∀e∈H.live,Lv held e
 gv:∀g∈H.bR,∀s a,g.ph=some (.dG s a)->Gv held s a
 th:∀g∈H.bR,tP H.tb.length g
 ok:∀c∈H.tb,c.ok
 a1:1<=H.bY.length
 sl:H.sp.st.length=H.cf.aF
variable {H:Hw}{held:List Pc}{s0:Sp}{t k:Nat}{g:Th}{A:AR}
theorem jF.refl (s:Sp):jF s s:=⟨rfl,λ_=>Iff.rfl,rfl⟩
theorem HI.apart (h:HI H held s0){p q:Pc}(hp:p∈held)(hq:q∈held){x:Nat}(p1:p.addr<=x)(p2:x<p.addr+p.size)(q1:q.addr<=x)(q2:x<q.addr+q.size):p=q:=h.wi.apart hp hq p1 p2 q1 q2
theorem WI.same {W:Wd}(h:WI W){p q:Pc}(hp:p∈W.held)(hq:q∈W.held)(e:p.addr=q.addr):p=q:=by
 have b:=(h.size_pos hp).1;have a:=(h.size_pos hq).1;exact h.apart hp hq (x:=p.addr) (zD _) O O O
theorem WI.um {W:Wd}(h:WI W){p:Pc}(hp:p∈W.held){k x:Int}(hu:Um W.held k x)(e:(p.addr:Int)=x):p.eU=false/\p.cls=k:=by
 obtain⟨q,a,d,b,g⟩:=hu;obtain rfl:=h.same hp a O;exact⟨d,b⟩
theorem HI.m8 (h:HI H held s0){e:Int×Bk}(he:e∈H.live):Um held e.2.2.2.1 e.1:=by
 obtain⟨_,p,a,d,b,g,_⟩:=h.lv e he;exact⟨p,a,d,b,g⟩
theorem HI.oO (h:HI H held s0){g:Th}(hg:g∈H.bR)(k x:Int):gT g k x<=lx held k x:=by
 rw[←h.cn];unfold qW;have:=Bv (λg=>gT g k x) hg;omega
theorem HI.qT (h:HI H held s0){g:Th}(hg:g∈H.bR){k x:Int}(hc:1<=gT g k x):Um held k x:=CF (kr hc (h.oO hg k x))
theorem HI.mh (h:HI H held s0){g:Th}(hg:g∈H.bR){k x:Int}(hc:1<=gT g k x):bU H.live x=none:=by
 cases hm:bU H.live x with
 | none=>rfl
 | some b=>
  have i:=Z8 hm;have m:=h.qT hg hc;obtain⟨q,s,y,u,p⟩:=h.m8 i;have r:k=b.2.2.1:=by
   have:=(h.wi.um (W:=⟨H.tb,s0,H.bY,held⟩) s m p).2;exact this.symm.trans u
  have j:=FD i;have d:=h.cn k x;have w:=ES held k x;have a:=Bv (λg=>gT g k x) hg;simp only at j a;unfold qW at d;rw[r]at d w a hc;omega
theorem HI.uR (h:HI H held s0){x:Int}(hn:∀k,¬Um held k x):bU H.live x=none:=by
 cases hm:bU H.live x with
 | none=>rfl
 | some b=>exact(hn _ (h.m8 (Z8 hm))).elim
theorem HI.fD (h:HI H held s0)(hg:H.bR[t]?=some g){g':Th}{live':List (Int×Bk)}{s0' sp':Sp}{ars':List AR}{held':List Pc}(wi:WI ⟨H.tb,s0',ars',held'⟩)(na:jF s0' sp')(hsl:sp'.st.length=H.sp.st.length)(hl:ars'.length=H.bY.length)
 (sub:∀p∈held',p.eU=false->p∈held\/∀k,¬Um held k (p.addr:Int))
 (cn:∀k x,mA live' k x+gT g' k x+lx held k x=mA H.live k x+gT g k x+lx held' k x)
 (lk:(live'.map (·.1)).Nodup) (lv:∀e∈live',e∈H.live\/Lv held' e) (gv:∀s a,g'.ph=some (.dG s a)->Gv held' s a) (th:tP H.tb.length g') :
 HI {H with live:=live',sp:=sp',bY:=ars',bR:=H.bR.set t g'} held' s0':=by
 have u:∀k x,qW {H with live:=live',sp:=sp',bY:=ars',bR:=H.bR.set t g'} k x=lx held' k x:=λk x=>by
  have b:=h.cn k x;have r:=cn k x;have i:=Ex (λg=>gT g k x) g' hg;unfold qW at b ⊢;simp only at i ⊢;omega
 have F:=(cY.1 hg).1;have bT:∀p∈held,p.eU=false->Um held' p.cls (p.addr:Int)->p∈held':=λp m E ⟨q,A,b,r,i⟩=>by
  rcases sub q A b with hs|hs
  ·have:q=p:=h.wi.same (W:=⟨H.tb,s0,H.bY,held⟩) hs m O;rw[←this];exact A
  ·exact(hs p.cls ⟨p,m,E,rfl,i.symm⟩).elim
 refine⟨wi,na,u,lk,λe B=>?_,λw d s a m=>?_,λw d=>?_,h.ok,by simp only;rw[hl];exact h.a1,hsl.trans h.sl⟩
 ·rcases lv e B with he'|he'
  ·obtain⟨C,p,m,b,r,i,z⟩:=h.lv e he';refine⟨C,p,bT p m b ?_,b,r,i,z⟩;rw[r,i];apply CF;rw[←u];have:1<=mA live' e.2.2.2.1 e.1:=FD B;unfold qW;simp only;omega
  ·exact he'
 ·rcases List.mem_iff_getElem?.1 d with⟨j,hj⟩;rcases VD hj with⟨rfl,rfl,_⟩|⟨hne,hj'⟩
  ·exact gv s a m
  ·obtain⟨p,y,b,r,i,z⟩:=h.gv w (zG hj') s a m;refine⟨p,bT p y b ?_,b,r,i,z⟩;rw[r,i];apply CF;rw[←u];have D:=Bv (λg=>gT g (-1) (s*256)) d;have G:1<=gT w (-1) (s*256):=by unfold gT;rw[m];simp[jN]
   unfold qW;simp only at D ⊢;omega
 ·rcases List.mem_iff_getElem?.1 d with⟨j,hj⟩;rcases VD hj with⟨rfl,rfl,_⟩|⟨hne,hj'⟩
  ·exact th
  ·exact h.th w (zG hj')
theorem HI.kO (h:HI H held s0)(hg:H.bR[t]?=some g){g':Th}{live':List (Int×Bk)}(cn:∀k x,mA live' k x+gT g' k x=mA H.live k x+gT g k x)(lk:(live'.map (·.1)).Nodup)(lv:∀e∈live',e∈H.live\/Lv held e)
 (gv:∀s a,g'.ph=some (.dG s a)->Gv held s a) (th:tP H.tb.length g'):HI {H with live:=live',bR:=H.bR.set t g'} held s0:=
 h.fD hg h.wi h.na rfl rfl (λp b _=>.inl b) (λk x=>by have:=cn k x;omega) lk lv gv th
theorem NI {A:AR}{x:Int}:pK A x=true↔0<=x/\A.f x.toNat≠0:=by
 unfold pK AR.f gf;simp
theorem WI.owner {W:Wd}(h:WI W){p:Pc}(hp:p∈W.held){x:Nat}(h1:p.addr<=x)(h2:x<p.addr+p.size):Yd W.bY (x:Int)=(p.k:Int):=by
 obtain⟨A,b,_⟩:=h.hf p hp;have g:=h.qc hp b h1 h2;have a:=(cY.1 b).1;have own:∀(j:Nat) (B:AR),W.bY[j]?=some B->(pK B ((x:Int)/256)=true↔j=p.k):=λj B d=>by
  have e:((x:Int)/256).toNat=x/256:=by omega
  rw[NI,e];constructor
  ·rintro⟨_,hf⟩;exact h.one (x/256) j p.k B A d b hf O
  ·rintro rfl;rw[b]at d;cases d;exact⟨O,O⟩
 unfold Yd;rw[zB O];have hf:W.bY.findIdx? (λA=>pK A ((x:Int)/256))=some p.k:=by
  rw[nE];refine⟨a,(own p.k _ (cX a)).2 rfl,λj i=>?_⟩;have:=own j W.bY[j] (cX O);intro hx;have:=this.1 hx;omega
 rw[hf]
theorem HI.owner (h:HI H held s0){p:Pc}(hp:p∈held){x:Nat}(h1:p.addr<=x)(h2:x<p.addr+p.size):Yd H.bY (x:Int)=(p.k:Int):=h.wi.owner (W:=⟨H.tb,s0,H.bY,held⟩) hp h1 h2
theorem HI.px (h:HI H held s0){p:Pc}(hp:p∈held):Yd H.bY (p.addr:Int)=(p.k:Int):=h.owner hp (zD _) (by have:=(h.wi.size_pos (W:=⟨H.tb,s0,H.bY,held⟩) hp).1;omega)
theorem HI.i63 (h:HI H held s0){k x:Int}(hu:Um held k x):iN x/\0<=x/\0<=Yd H.bY x:=by
 obtain⟨p,a,_,_,rfl⟩:=hu;have:=(h.wi.jR (W:=⟨H.tb,s0,H.bY,held⟩) a).1;refine⟨by unfold iN;omega,O,?_⟩;rw[h.px a];omega
end Go.Ar
namespace Go.Ar
open Go.Vc (bU dA cO)
open Go.Bu (Zx)
structure KS (s s':Sp):Prop where
 l:s'.st.length=s.st.length
 k:∀p,gf s.st p≠0->gf s'.st p≠0/\∀w,w/32=p->s'.wd w=s.wd w
theorem KS.refl (s:Sp):KS s s:=⟨rfl,λp a=>⟨a,λ_ _=>rfl⟩⟩
theorem KS.trans {a b c:Sp}(h:KS a b)(k:KS b c):KS a c:=⟨k.l.trans h.l,λp d=>⟨(k.k p (h.k p d).1).1,λw g=>((k.k p (h.k p d).1).2 w g).trans ((h.k p d).2 w g)⟩⟩
variable {s s' sp sp' s0 s0':Sp}{A B:AR}{k:Nat}
theorem jF.mz (h:jF s s'):s'.st.map (λx=>decide (x=0))=s.st.map λx=>decide (x=0):=by
 refine zt λi=>?_;rw[za,za];have a:=h.z i;unfold gf at a;rw[zQ,zQ]at a;by_cases hi:i<s.st.length
 ·have b:i<s'.st.length:=by rw[h.l];exact hi
  rw[cX hi,cX b]at a ⊢;simp only[qn]at a;simp[a]
 ·have d:=h.l;rw[zX O,zX O]
theorem Sq {l l':List Nat}(h:l'.map (λx=>decide (x=0))=l.map λx=>decide (x=0))(a m:Nat)(f:Bool->Bool):((l'.drop a).take m).any (λx=>f (decide (x=0)))=((l.drop a).take m).any λx=>f (decide (x=0)):=by
 have e:∀l:List Nat,((l.drop a).take m).any (λx=>f (decide (x=0)))=(((l.map λx=>decide (x=0)).drop a).take m).any f:=λl=>by
  rw[←List.map_drop,←List.map_take,List.any_map];rfl
 rw[e,e,h]
theorem jF.fE (h:jF s s')(a m:Int):fE s' a m=fE s a m:=by
 unfold Go.Ar.fE;rw[h.l];have:=Sq h.mz a.toNat m.toNat (λb=>!b);have e:∀l:List Nat,l.any (λx=>x != 0)=l.any λx=>!decide (x=0):=λl=>by
  refine congrArg l.any (funext λx=>?_);cases x<;>rfl
 rw[e,e,this]
theorem jF.set (h:jF s s'){a m v:Nat}(hl:a+m<=s.st.length):jF (s.set a m v) (s'.set a m v):=by
 refine⟨by simp[Sp.set,Vl,h.l],λp=>?_,?_⟩
 ·show gf (gF s'.st a (a+m) v) p=0↔gf (gF s.st a (a+m) v) p=0;rw[vT (by rw[h.l];exact hl),vT hl];split
  ·exact Iff.rfl
  ·exact h.z p
 ·show(λw=>if a*32<=w/\w<(a+m)*32 then 0 else s'.wd w)=_
  rw[h.w];rfl
theorem Mj {n:Nat}{a m:Int}(h:Zx n a m=true):a.toNat+m.toNat<=n:=by
 by_cases h0:0<=a/\0<=m
 ·obtain⟨a,rfl⟩:=zc h0.1;obtain⟨m,rfl⟩:=zc h0.2;rw[dH,dH];exact(UF.1 h).2
 ·exfalso;unfold Zx at h;simp at h;omega
theorem jF.gA (h:jF s s')(a m:Int):jF (gA s a m) (gA s' a m):=by
 unfold Go.Ar.gA;rw[h.fE];split
 ·rename_i h0;refine h.set ?_;unfold Go.Ar.fE at h0;split at h0
  ·rename_i hr;exact Mj hr
  ·simp at h0
 ·exact h
theorem IX (s:Sp)(a m:Nat):KS s (gA s (a:Int) (m:Int)):=by
 by_cases h:fE s (a:Int) (m:Int)=0
 ·have j:=Dt h;obtain⟨u,r,i,_⟩:=E6 h;refine⟨u,λp d=>?_⟩;have b:¬(a<=p/\p<a+m):=λg=>d (j.2.2 p g.1 g.2);exact⟨by rw[r,zB b];exact d,λw x=>i w O⟩
 ·unfold gA;rw[zB h];exact KS.refl s
theorem jF.dB (h:jF s s')(size:Nat):dB s' size=dB s size:=by
 unfold Go.Ar.dB;rw[h.l]
 congr 1
 funext x
 rw[h.fE]
theorem jF.dC (h:jF s s')(A:AR)(m a no:Nat):(dC A s' m a no).1=(dC A s m a no).1/\(dC A s' m a no).2.1=(dC A s m a no).2.1/\jF (dC A s m a no).2.2 (dC A s' m a no).2.2/\KS s' (dC A s' m a no).2.2:=by
 unfold Go.Ar.dC;split
 ·exact⟨rfl,rfl,h,KS.refl _⟩
 ·unfold Hg;rw[h.dB];cases hg:Go.Ar.dB s (Kz (max m a))with
  | none=>exact⟨rfl,rfl,h,KS.refl _⟩
  | some x=>
   simp only;split
   ·exact⟨rfl,rfl,h.gA _ _,IX _ _ _⟩
   ·exact⟨rfl,rfl,h.gA _ _,IX _ _ _⟩
theorem jF.cQ (h:jF s s')(A:AR)(k:Int):(cQ A s' k).1=(cQ A s k).1/\Vv A s' k=Vv A s k/\jF (cQ A s k).2 (cQ A s' k).2/\KS s' (cQ A s' k).2:=by
 unfold Go.Ar.cQ Vv;split
 ·split
  ·rename_i c ss _ _;obtain⟨d,a,g,b⟩:=h.dC A c.aF 1 (k.toNat+1);cases e1:Go.Ar.dC A s c.aF 1 (k.toNat+1)with
   | mk o1 r1=>cases e2:Go.Ar.dC A s' c.aF 1 (k.toNat+1)with
    | mk o2 r2=>
     obtain⟨m,i⟩:=r1;obtain⟨j,p⟩:=r2;rw[e1,e2]at d a g;rw[e2]at b;simp only at d a g b;subst d;subst a;cases o2<;>exact⟨rfl,rfl,g,b⟩
  ·exact⟨rfl,rfl,h,KS.refl _⟩
 ·exact⟨rfl,rfl,h,KS.refl _⟩
theorem jF.cC (h:jF s s')(A:AR)(m a:Int):(cC A s' m a).1=(cC A s m a).1/\QZ A s' m a=QZ A s m a/\Qy A s' m a=Qy A s m a/\jF (cC A s m a).2 (cC A s' m a).2/\KS s' (cC A s' m a).2:=by
 unfold Go.Ar.cC QZ Qy;split
 ·obtain⟨g,b,i,d⟩:=h.dC A m.toNat a.toNat 41;cases e1:Go.Ar.dC A s m.toNat a.toNat 41 with
  | mk o1 r1=>cases e2:Go.Ar.dC A s' m.toNat a.toNat 41 with
   | mk o2 r2=>
    obtain⟨r,j⟩:=r1;obtain⟨p,u⟩:=r2;rw[e1,e2]at g b i;rw[e2]at d;simp only at g b i d;subst g;subst b;cases o2<;>exact⟨rfl,rfl,rfl,i,d⟩
 ·exact⟨rfl,rfl,rfl,h,KS.refl _⟩
variable {W:Wd}
theorem Ty (h:WI W){cl:Int}{l:List Int}(ho:jA W.held k cl l=true)(c x:Int):Um (W.held.filter λp=>!eI k cl l p) c x↔Um W.held c x/\¬(c=cl/\x∈l):=by
 constructor
 ·rintro⟨p,hp,h1,h2,h3⟩;obtain⟨a,d⟩:=zL.1 hp;refine⟨⟨p,a,h1,h2,h3⟩,?_⟩;rintro⟨rfl,b⟩;obtain⟨q,m,g⟩:=(Vo.1 ho).1 x b;obtain⟨j,s,u,w⟩:=Vn.1 g;obtain rfl:=h.same (p:=p) (q:=q) a m O;have:eI k c l p=true:=Qv.2 ⟨j,h2,by rw[h3];exact b⟩;rw[this]at d;cases d
 ·rintro⟨⟨p,hp,h1,h2,h3⟩,d⟩;refine⟨p,zL.2 ⟨hp,?_⟩,h1,h2,h3⟩;have:eI k cl l p=false:=nY.2 λb=>by
   obtain⟨_,r,i⟩:=Qv.1 b;exact d ⟨h2.symm.trans r,by rw[←h3];exact i⟩
  rw[this];rfl
theorem Sr {held:List Pc}{cl:Int}{l:List Int}(ho:jA held k cl l=true):∀x∈l,Um held cl x:=λx d=>by
 obtain⟨q,i,a⟩:=(Vo.1 ho).1 x d;obtain⟨m,b,g,j⟩:=Vn.1 a;exact⟨q,i,j,b,g⟩
theorem N1 (h:WI W){cl:Int}{l:List Int}(ho:jA W.held k cl l=true)(c x:Int):Um (Ge W.held k cl l true) c x↔Um W.held c x/\¬(c=cl/\x∈l):=by
 constructor
 ·rintro⟨p,hp,h1,h2,h3⟩;obtain⟨q,b,rfl⟩:=Kc.1 hp;by_cases hof:eI k cl l q=true
  ·rw[zC hof]at h1;cases h1
  ·rw[zB hof]at h1 h2 h3;refine⟨⟨q,b,h1,h2,h3⟩,?_⟩;rintro⟨rfl,hx⟩;obtain⟨r,i,a⟩:=(Vo.1 ho).1 x hx;obtain⟨g,m,s,u⟩:=Vn.1 a;obtain rfl:=h.same b i O;exact hof (Qv.2 ⟨g,h2,by rw[h3];exact hx⟩)
 ·rintro⟨⟨p,hp,h1,h2,h3⟩,hn⟩;refine⟨p,Kc.2 ⟨p,hp,?_⟩,h1,h2,h3⟩;rw[zB];intro hx;obtain⟨_,j,d⟩:=Qv.1 hx;exact hn ⟨h2.symm.trans j,by rw[←h3];exact d⟩
theorem TQ {held:List Pc}{cl:Int}{l:List Int}:∀p∈Ge held k cl l true,p.eU=false->p∈held:=λp b a=>by
 obtain⟨q,d,rfl⟩:=Kc.1 b;by_cases hof:eI k cl l q=true
 ·rw[zC hof]at a;cases a
 ·rw[zB hof];exact d
theorem Rh (h:WI W)(hk:W.bY[k]?=some A){j:Nat}:(∀x∈YM A (j:Int),∀c,¬Um W.held c x)/\(YM A (j:Int)).Nodup/\(∀c x,Um (Ge W.held k j (YM A (j:Int)) false) c x↔Um W.held c x\/(c=j/\x∈YM A (j:Int))) ∧
 (∀p∈Ge W.held k j (YM A (j:Int)) false,p.eU=false->p∈W.held\/∀c,¬Um W.held c (p.addr:Int)):=by
 obtain⟨o,e1,e2,z,G,F⟩:=Jd (h.ga k A hk) (j:Int);rw[dH]at e2;have u:∀x∈YM A (j:Int),∃q∈W.held,q.k=k/\q.cls=j/\(q.addr:Int)=x/\q.eU=true:=λx b=>by
  have i:=e2 x b;obtain⟨t,ht,g⟩:=i;have r:j<A.tb.length:=by rw[←(h.ga k A hk).lt];exact(cY.1 ht).1
  obtain⟨c,E,H,s,B⟩:=(h.ga k A hk).cl r;have m:fU A j x:=(VM s).2 ((h.ga k A hk).mq j c E t s ht x g);obtain⟨q,a,q1,q2,q3⟩:=h.ht k A hk j x m;obtain⟨_,_,_,_,C⟩:=h.cls a q2 (by rw[q1];exact hk);exact⟨q,a,q1,q2,q3,C.2 (by rw[q3];exact⟨t,ht,g⟩)⟩
 have new:∀x∈YM A (j:Int),∀c,¬Um W.held c x:=λx b c D=>by
  obtain⟨q,a,_,_,q3,q4⟩:=u x b;have:=(h.um a D q3).1;rw[q4]at this;cases this
 refine⟨new,z,λc x=>⟨?_,?_⟩,λp d J=>?_⟩
 ·rintro⟨p,d,h1,h2,h3⟩;obtain⟨q,a,rfl⟩:=Kc.1 d;by_cases hof:eI k (j:Int) (YM A (j:Int)) q=true
  ·rw[zC hof]at h2 h3;obtain⟨_,w,y⟩:=Qv.1 hof;exact .inr ⟨h2.symm.trans w,by rw[←h3];exact y⟩
  ·rw[zB hof]at h1 h2 h3;exact .inl ⟨q,a,h1,h2,h3⟩
 ·rintro(⟨p,d,h1,h2,h3⟩|⟨rfl,b⟩)
  ·refine⟨p,Kc.2 ⟨p,d,?_⟩,h1,h2,h3⟩;split
   ·rw[←h1]
   ·rfl
  ·obtain⟨q,a,q1,q2,q3,q4⟩:=u x b;refine⟨{q with eU:=false},Kc.2 ⟨q,a,?_⟩,rfl,q2,q3⟩;rw[zC (Qv.2 ⟨q1,q2,by rw[q3];exact b⟩)]
 ·obtain⟨q,a,rfl⟩:=Kc.1 d;by_cases hof:eI k (j:Int) (YM A (j:Int)) q=true
  ·rw[zC hof];exact .inr (new _ (Qv.1 hof).2.2)
  ·rw[zB hof];exact .inl a
theorem Bj {tb:List cA}{bY:List AR}{sp:Sp}{held new:List Pc}(h:WI ⟨tb,sp,bY,held++new⟩):∀p∈new,∀c,¬Um held c (p.addr:Int):=by
 rintro p b c ⟨q,d,_,_,g⟩;have e:=h.same (p:=p) (q:=q) (oC _ b) (kL _ d) O;have a:=h.hk;simp only[zm]at a;rw[nr]at a;exact a.2.2 q.key (zE.2 ⟨q,d,rfl⟩) p.key (zE.2 ⟨p,b,rfl⟩) (by rw[e])
theorem Es {held new:List Pc}{cl:Int}{l:List Int}(h1:∀p∈new,p.eU=false/\p.cls=cl/\(p.addr:Int)∈l)(h2:∀x∈l,∃p∈new,(p.addr:Int)=x)(c x:Int):Um (held++new) c x↔Um held c x\/(c=cl/\x∈l):=by
 constructor
 ·rintro⟨p,b,a1,a2,a3⟩;rcases zM.1 b with b|b
  ·exact .inl ⟨p,b,a1,a2,a3⟩
  ·obtain⟨_,g,d⟩:=h1 p b;exact .inr ⟨a2.symm.trans g,by rw[←a3];exact d⟩
 ·rintro(⟨p,b,a⟩|⟨rfl,hx⟩)
  ·exact⟨p,kL _ b,a⟩
  ·obtain⟨p,b,e⟩:=h2 x hx;exact⟨p,oC _ b,(h1 p b).1,(h1 p b).2.1,e⟩
theorem JW {tb:List cA}{bY:List AR}{sp:Sp}{held new:List Pc}(h:WI ⟨tb,sp,bY,held++new⟩):∀p∈held++new,p.eU=false->p∈held\/∀c,¬Um held c (p.addr:Int):=λp a _=>by
 rcases zM.1 a with a|a
 ·exact .inl a
 ·exact .inr (Bj h p a)
theorem Vy {ss:List cH}:∀{i:Nat},Zw ss i=none->∀k,k<i->∀s,ss[k]?=some s->¬s.many<s.tk.length
 | 0,_,k,hk,_,_=>by omega
 | i+1,h,k,hk,s,hs=>by
  unfold Zw at h;by_cases hki:k=i
  ·subst hki;rw[hs]at h;simp only at h;intro hlt;rw[zC hlt]at h;split at h
   ·split at h
    ·split at h<;>cases h
    ·cases h
   ·cases h
  ·cases hi:ss[i]? with
   | none=>
    rw[hi]at h;exact Vy h k O s hs
   | some x=>
    rw[hi]at h;simp only at h;split at h
    ·split at h
     ·split at h
      ·split at h<;>cases h
      ·cases h
     ·exact Vy (by assumption) k O s hs
    ·exact Vy h k O s hs
theorem RD (h:GA A)(hw:Ow A sp){j:Nat}(hE:Vv A sp (j:Int)=0){w:Nat}(h1:1<=w):Yw (cQ A sp (j:Int)).1 (j:Int) (w:Int)≠[]:=by
 rcases Eo h hw (j:Int)with⟨_,hn,_⟩|⟨j',c,ss,x,A1,sp1,hj,hk,hk1,_,e,hst,r1,r2,r3,_,hd,hS⟩
 ·exact(hn hE).elim
 ·obtain rfl:j=j':=by omega
  have a:Cl (cQ A sp (j:Int)).1 j c (ir c ss x):=by
   rw[e];have g:Cl (dS A1 x c.aF (j+1)) j c ss:=hk1;exact Hl g _
  have E:=hS.ga.cG j c _ a;have b:(⟨x,List.replicate c.n false⟩:cH)∈ir c ss x:=VU.2 (.inl rfl);have d:(cQ A sp (j:Int)).1.ck (j:Int)=true:=Hz.2 ⟨j,rfl,a.lt⟩;unfold Yw Q6 VQ;rw[d,zC rfl,zB (show ¬((w:Int)<0) by omega),zC rfl,dH,dH,a.1,a.2];simp only;obtain⟨w,rfl⟩:∃v,w=v+1:=⟨w-1,O⟩;cases ho:jj c (ir c ss x)with
  | some r=>
   obtain⟨y,C⟩:=r;rw[GO ho];simp
  | none=>
   exfalso;unfold jj iP at ho;obtain⟨l,z⟩:=zP b;have u:=(cY.1 z).1;have p:(⟨x,List.replicate c.n false⟩:cH).many<(⟨x,List.replicate c.n false⟩:cH).tk.length:=by
    have:=E.ok.tj;simp[cH.many,AW];omega
   cases hb:Zw (ir c ss x) (ir c ss x).length with
   | none=>exact Vy hb l u _ z p
   | some i=>
    rw[hb]at ho;obtain⟨_,s,B,m⟩:=Kl hb;obtain⟨r,D,_⟩:=Ag m;simp only[B,D]at ho;cases ho
end Go.Ar
namespace Go.Ar
open Go.Vc (bU dA cO)
variable {H:Hw}{held:List Pc}{s0:Sp}{t k:Nat}{g:Th}{A:AR}{c:cA}
theorem Qx {p:Ph}{H1:Hw}{g1:Th}{nx:Option Ph}{a e:Int}(ht:t<H.bR.length)(hs:WG H t p=({H1 with bR:=H.bR.set t g1},nx,a,e)):Q9 H t p = {H1 with bR:=H.bR.set t {g1 with ph:=nx}}:=by
 unfold Q9;rw[hs];show Hw.eC _ t _=_;rw[ZQ (g:=g1) (by simp[ht])];simp only[nO]
structure iG (H:Hw) (t:Nat) (p:Ph):Prop where
 ok:wj H t p
 hi:∃held s0,HI (Q9 H t p) held s0
 ks:KS H.sp (Q9 H t p).sp
theorem iG.mk' {p:Ph}(hg:H.bR[t]?=some g)(hl:g.bQ.length<=41)(h1:vF H t p){H':Hw}{held':List Pc}{s0':Sp}(e:Q9 H t p=H')(h2:HI H' held' s0')(h3:KS H.sp H'.sp):iG H t p:=
 ⟨⟨h1,λb a=>by rw[hg]at a;cases a;omega⟩,⟨held',s0',by rw[e];exact h2⟩,by rw[e];exact h3⟩
def Rq (tb:List cA)(g:Th):Ph->Int->Int->Prop
 | .take k,cl,sz=>cl=k/\∃c,tb[k]?=some c/\sz=c.size
 | .cI k _,cl,sz=>cl=k/\∃c,tb[k]?=some c/\sz=c.size
 | .cL k _,cl,sz=>cl=k/\∃c,tb[k]?=some c/\sz=c.size
 | .grow k _,cl,sz=>cl=k/\∃c,tb[k]?=some c/\sz=c.size
 | .fill,cl,sz=>∃k xs r c,g.bQ=(k,xs)::r/\cl=k/\tb[k]?=some c/\sz=c.size
 | .eP m,cl,sz=>cl = -1/\sz=((m*256:Nat):Int)
 | _,_,_=>False
def pR (H:Hw)(t:Nat):Ph->Nat
 | .take _=>5
 | .cI _ _=>4
 | .cL k w=>if Yw (H.eM t) (k:Int) (w:Int)=[]then 3 else 1
 | .grow _ _=>2
 | _=>0
def tD (H:Hw)(t:Nat)(p:Ph)(cl sz:Int):Prop:=
 (∃p' g',(WG H t p).2.1=some p'/\(Q9 H t p).live=H.live/\(Q9 H t p).bR[t]?=some g'/\Rq H.tb g' p' cl sz/\pR (Q9 H t p) t p'<pR H t p) ∨
 ((WG H t p).2.1=none/\(WG H t p).2.2.2≠0/\(WG H t p).2.2.1=0/\(Q9 H t p).live=H.live) ∨
 ((WG H t p).2.1=none/\(WG H t p).2.2.2=0/\bU H.live (WG H t p).2.2.1=none/\(Q9 H t p).live=dA H.live (WG H t p).2.2.1 ((WG H t p).2.2.1,sz,cl,Yd (Q9 H t p).bY (WG H t p).2.2.1))
theorem HI.mem (h:HI H held s0)(hg:H.bR[t]?=some g):g∈H.bR:=zG hg
theorem HI.kb (h:HI H held s0)(t:Nat):H.own t<H.bY.length:=vG _ (by have:=h.a1;omega)
theorem HI.eM (h:HI H held s0)(t:Nat):H.bY[H.own t]?=some (H.eM t):=by
 have a:=cX (h.kb t);rw[DN a];exact a
theorem HI.r6 (h:HI H held s0):H.tb.length<=40:=by
 have a:=h.eM 0;have:=(h.wi.ga _ _ a).tb;rw[h.wi.tb _ _ a]at this;exact this
theorem HI.cls (h:HI H held s0)(hk:k<H.tb.length):∃c,H.tb[k]?=some c/\c.ok:=⟨H.tb[k],cX hk,h.ok _ (kv hk)⟩
theorem tP.li {m:Nat}(h:tP m g)(hk:k<m):∃l,g.ls[k]?=some l/\g.li k=l/\fQ l/\l.os.length<=128:=by
 have a:=cX (l:=g.ls) (i:=k) (by rw[h.ll];exact hk);have:=h.lo _ (kv (by rw[h.ll];exact hk));exact⟨_,a,Ai a,this.1,this.2⟩
theorem tP.il {m:Nat}(h:tP m g){l':Li}(h1:fQ l')(h2:l'.os.length<=128):(g.ls.set k l').length=m/\∀l∈g.ls.set k l',fQ l/\l.os.length<=128:=by
 refine⟨by rw[pn];exact h.ll,λl a=>?_⟩;rcases AV a with a|rfl
 ·exact h.lo l a
 ·exact⟨h1,h2⟩
theorem Of {ls:List Li}{l':Li}{hs:List Bt}{ph:Option Ph}(hk:k<ls.length):(⟨ls.set k l',hs,ph⟩:Th).li k=l':=by
 unfold Th.li;rw[EB l' k hk,zC rfl]
theorem HI.yn (h:HI H held s0){y:Int}(hu:Um held (k:Int) y)(hc:H.tb[k]?=some c):Lv held (y,(y,(c.size:Int),(k:Int),Yd H.bY y)):=by
 obtain⟨p,d,m,i,rfl⟩:=hu;obtain⟨A,g,_⟩:=h.wi.hf p d;obtain⟨c',b,j,_⟩:=h.wi.cls d i g;rw[h.wi.tb _ _ g]at b;have a:H.tb[k]?=some c':=b;rw[hc]at a;cases a;exact⟨rfl,p,d,m,i,rfl,by rw[j],by rw[h.px d]⟩
theorem AB {ls:List Li}{l:Li}(hl:ls[k]?=some l)(l':Li)(k' x:Int):l4 (ls.set k l') k' x+(if(k:Int)=k' then l.os.count x else 0)=l4 ls k' x+(if(k:Int)=k' then l'.os.count x else 0):=by
 have:=Ma l' (cY.1 hl).1 k' x;rw[zQ,hl]at this;exact this
theorem Oc {ls:List Li}{l:Li}(hl:ls[k]?=some l)(x:Int):l4 ls (k:Int) x=l.os.count x:=by
 rw[xZ,zQ,hl];rfl
theorem Ζ (h:HI H held s0)(hg:H.bR[t]?=some g)(hph:g.ph=some (.take k)){cl sz:Int}(hr:Rq H.tb g (.take k) cl sz):iG H t (.take k)/\tD H t (.take k) cl sz:=by
 have G:=(cY.1 hg).1;have b:=h.th g (h.mem hg);obtain⟨P,u⟩:g.bQ=[]/\k<H.tb.length:=by have:=b.ph;unfold iy at this;rw[hph]at this;exact this
 obtain⟨rfl,c,m,rfl⟩:=hr;have B:=h.ok c (zG m);obtain⟨l,hl,j,K,U⟩:=b.li u;have d:=Fk B K;have i:=GX hg;cases hT:KI c l with
 | mk o l'=>
  rw[hT]at d;cases o with
  | some y=>
   have C:WG H t (.take k)=({{H with live:=dA H.live y (y,(c.size:Int),(k:Int),Yd H.bY y)}with bR:=H.bR.set t {g with ls:=g.ls.set k l'}},none,y,0):=by
    simp only[WG,i,Uy m,j,hT,VX,ZQ hg,Th.il]
   have e:=Qx G C;have r:1<=gT g (k:Int) y:=by
    have:=I5 hT y;rw[C2]at this;unfold gT;rw[Oc hl];omega
   have N:=h.qT (h.mem hg) r;have M:=h.mh (h.mem hg) r;have p:l'.os.length<=128:=by
    have:l'.os.length<=l.os.length:=by
     unfold KI at hT;split at hT
     ·cases hT
     ·cases hT;simp
    omega
   obtain⟨ll,L⟩:=b.il (k:=k) d p;have hi:=h.kO hg (g':={g with ls:=g.ls.set k l',ph:=none}) (live':=dA H.live y (y,(c.size:Int),(k:Int),Yd H.bY y)) (λE x=>by
    rw[B3 _ M];have D:=AB hl l' E x;have V:=I5 hT x;unfold gT;rw[hph];simp only[jN];by_cases hkk:(k:Int)=E
    ·simp only[hkk,zU]at D ⊢;omega
    ·simp only[hkk,jU]at D ⊢;omega)
    (Go.Vc.hU h.lk) (λS A=>by
     rcases(yI M).1 A with A|rfl
     ·exact .inl A
     ·exact .inr (h.yn N m))
    (λs a J=>by cases J) ⟨ll,L,b.hb,b.hl,by unfold iy;exact P⟩
   refine⟨iG.mk' hg b.hl ⟨u,λQ F w=>?_⟩ e hi (KS.refl _),.inr (.inr ?_)⟩
   ·rw[i,j,Uy m,hT]at w;cases w;exact(h.i63 N).1
   ·rw[e,C];exact⟨rfl,rfl,M,rfl⟩
  | none=>
   have C:WG H t (.take k)=({H with bR:=H.bR.set t {g with ls:=g.ls.set k l'}},some (.cI k (pf c l')),0,0):=by
    simp only[WG,i,Uy m,j,hT,ZQ hg,Th.il]
   have e:=Qx G C;obtain⟨o1,o2⟩:=Oy hT;obtain⟨ll,L⟩:=b.il (k:=k) d (by rw[o2];simp);have z:=d.nF;have R:1<=pf c l'/\pf c l'<=32:=by
    unfold cA.ok at B;unfold pf;simp only at z;omega
   have hi:=h.kO hg (g':={g with ls:=g.ls.set k l',ph:=some (.cI k (pf c l'))}) (live':=H.live) (λE x=>by
    have D:=AB hl l' E x;rw[o1,o2]at D;unfold gT;rw[hph];simp only[jN];omega) h.lk (λS A=>.inl A) (λs a J=>by cases J) ⟨ll,L,b.hb,b.hl,by
     unfold iy;exact⟨P,u,by rw[Of (by rw[b.ll];exact u)];exact o2,R⟩⟩
   refine⟨iG.mk' hg b.hl ⟨u,λQ F w=>?_⟩ e hi (KS.refl _),.inl ?_⟩
   ·rw[i,j,Uy m,hT]at w;cases w
   ·rw[e,C];exact⟨_,_,rfl,rfl,zO G,⟨rfl,c,m,rfl⟩,by simp[pR]⟩
theorem GZ (h:GA A)(h0:Qz A (k:Int)=0)(hc:A.tb[k]?=some c):∃x xs,YM A (k:Int)=x::xs/\xs.length+1=c.batch:=by
 have a:YM A (k:Int)=(match A.cR[k]? with
  | some t=>t.bs.getLast?.getD []
  | none=>[]):=by unfold YM;rw[zC h0,dH];rfl
 unfold Qz at h0;rw[dH]at h0;split at h0
 ·split at h0
  ·rename_i t ht;split at h0
   ·cases h0
   ·rename_i hb;rw[ht]at a;simp only at a;have m:t.bs.getLast?=some (t.bs.getLast hb):=List.getLast?_eq_some_getLast hb;rw[m]at a;simp only[qn]at a;have:=h.oK k c t hc ht _ (List.getLast_mem hb);rw[←a]at this;have j:=h.cG;cases hx:YM A (k:Int)with
    | nil=>
     rw[hx]at this;have d:k<A.tb.length:=(cY.1 hc).1;obtain⟨i,p,_,b,_⟩:=h.cl d;have g:i=c:=Option.some.inj (b.1.symm.trans hc);have:=(h.cG k i p b).ok;unfold cA.ok at this;simp at *;subst g;omega
    | cons x xs=>exact⟨x,xs,rfl,by rw[hx]at this;simpa using this⟩
  ·cases h0
 ·cases h0
theorem SJ (h:HI H held s0)(hg:H.bR[t]?=some g){w:Nat}(hph:g.ph=some (.cI k w)){cl sz:Int}(hr:Rq H.tb g (.cI k w) cl sz):iG H t (.cI k w)/\tD H t (.cI k w) cl sz:=by
 have B:=(cY.1 hg).1;have d:=h.th g (h.mem hg);obtain⟨J,D,r,P⟩:g.bQ=[]/\k<H.tb.length/\(g.li k).os=[]/\1<=w/\w<=32:=by have:=d.ph;unfold iy at this;rw[hph]at this;exact this
 obtain⟨rfl,c,i,rfl⟩:=hr;have G:=h.ok c (zG i);have m:=G;unfold cA.ok at m;have C:=h.eM t;have ga:=h.wi.ga _ _ C;have p:(H.eM t).tb[k]?=some c:=by rw[h.wi.tb _ _ C];exact i
 have K:vF H t (.cI k w):=⟨D,λA=>by
  obtain⟨x,z,e,_⟩:=GZ ga A p;rw[e];simp⟩
 by_cases hcase:w=c.batch/\Qz (H.eM t) (k:Int)=0
 ·obtain⟨rfl,A⟩:=hcase;obtain⟨x,z,L,W⟩:=GZ ga A p;have u:WG H t (.cI k c.batch)=({H.cE (H.own t) (ZW (H.eM t) (k:Int))with bR:=H.bR.set t {g with bQ:=[(k,x::z)]}},some .fill,0,0):=by
   simp only[WG,Uy i,zU,A,Ki,L];rw[ZQ (g:=g) (by exact hg),J];rfl
  have e:=Qx (H1:=H.cE (H.own t) (ZW (H.eM t) (k:Int))) B u;obtain⟨U,M,N,Q⟩:=Rh h.wi C (j:=k);have wi:=h.wi.yp C (k:Int);have hi:=h.fD hg (g':={g with bQ:=[(k,x::z)],ph:=some .fill}) (live':=H.live) wi h.na rfl (by simp[Wd.put]) Q (λR y=>by
   rw[Bf M (λy V=>U y V _) N,L];unfold gT;rw[hph,J];simp only[jN,Vj,V3];omega) h.lk (λS F=>.inl F) (λs a E=>by cases E) ⟨d.ll,d.lo,λb hb=>by
    simp only[zN]at hb;subst hb;exact⟨D,by simp,by simp;omega⟩,by simp,by
    unfold iy;exact⟨k,x,z,rfl,D,r,O⟩⟩
  refine⟨iG.mk' hg d.hl K e hi (KS.refl _),.inl ?_⟩;rw[e,u];exact⟨_,_,rfl,rfl,zO B,⟨k,x::z,[],c,rfl,rfl,i,rfl⟩,by simp[pR]⟩
 ·have u:WG H t (.cI k w)=({H with bR:=H.bR.set t g},some (.cL k w),0,0):=by
   have:H.bR.set t g=H.bR:=QK hg;rw[this];simp only[WG,Uy i];split
   ·split
    ·exact(hcase ⟨by assumption,by assumption⟩).elim
    ·rfl
   ·rfl
  have e:=Qx B u;have hi:=h.kO hg (g':={g with ph:=some (.cL k w)}) (live':=H.live) (λR x=>by
   unfold gT;rw[hph];simp only[jN]) h.lk (λS F=>.inl F) (λs a E=>by cases E) ⟨d.ll,d.lo,d.hb,d.hl,by
    unfold iy;exact⟨J,D,r,P⟩⟩
  refine⟨iG.mk' hg d.hl K e hi (KS.refl _),.inl ?_⟩;rw[e,u];refine⟨_,_,rfl,rfl,zO B,⟨rfl,c,i,rfl⟩,?_⟩;simp only[pR];split<;>omega
theorem PO (h:GA A)(j w:Nat):(Yw A (j:Int) (w:Int)).length<=w:=by
 unfold Yw;split
 ·rename_i h0;have b:A.ck (j:Int)=true:=by
   unfold Q6 at h0;split at h0
   ·assumption
   ·cases h0
  obtain⟨i,hi,g⟩:=Hz.1 b;obtain⟨c,d,t,a,m⟩:=h.cl g;have:i=j:=by omega
  subst this;unfold VQ;rw[dH,dH,a.1,a.2];exact(Gm w (h.cG i c d a)).2.2.1
 ·simp
theorem SX (H:Hw)(t:Nat)(B:AR)(h:H.own t<H.bY.length)(sp:Sp)(bR:List Th):Hw.eM {H.cE (H.own t) B with sp:=sp,bR:=bR} t=B:=by
 refine DN ?_;have:Hw.own {H.cE (H.own t) B with sp:=sp,bR:=bR} t=H.own t:=by unfold Hw.own Hw.cE;simp
 rw[this];simp[Hw.cE,h]
theorem PR (h:HI H held s0)(hg:H.bR[t]?=some g){w:Nat}(hph:g.ph=some (.cL k w)){cl sz:Int}(hr:Rq H.tb g (.cL k w) cl sz):iG H t (.cL k w)/\tD H t (.cL k w) cl sz:=by
 have C:=(cY.1 hg).1;have d:=h.th g (h.mem hg);obtain⟨G,D,r,L⟩:g.bQ=[]/\k<H.tb.length/\(g.li k).os=[]/\1<=w/\w<=32:=by have:=d.ph;unfold iy at this;rw[hph]at this;exact this
 obtain⟨rfl,c,K,rfl⟩:=hr;have J:=h.eM t;have ga:=h.wi.ga _ _ J;have wi:=h.wi.from J (k:Int) (w:Int);have i:=PO ga k w;have B:=(Le ga (k:Int) (w:Int)).2.2.1;cases hv:Yw (H.eM t) (k:Int) (w:Int)with
 | nil=>
  have A:WG H t (.cL k w)=({H.cE (H.own t) (YQ (H.eM t) (k:Int) (w:Int))with bR:=H.bR.set t g},some (.grow k w),0,0):=by
   have:H.bR.set t g=H.bR:=QK hg;rw[this];simp only[WG,hv,zU,Hw.cE]
  have e:=Qx (H1:=H.cE (H.own t) (YQ (H.eM t) (k:Int) (w:Int))) C A;rw[hv]at wi;simp only[qh,kD]at wi;have hi:=h.fD hg (g':={g with ph:=some (.grow k w)}) (live':=H.live) wi h.na rfl (by simp[Wd.put]) (λp j _=>.inl j) (λM y=>by
   unfold gT;rw[hph];simp only[jN]) h.lk (λN E=>.inl E) (λs a j=>by cases j) ⟨d.ll,d.lo,d.hb,d.hl,by
    unfold iy;exact⟨G,D,r,L⟩⟩
  refine⟨iG.mk' hg d.hl trivial e hi (KS.refl _),.inl ?_⟩;rw[e,A];exact⟨_,_,rfl,rfl,zO C,⟨rfl,c,K,rfl⟩,by simp[pR,hv]⟩
 | cons v vs=>
  have A:WG H t (.cL k w)=({H.cE (H.own t) (YQ (H.eM t) (k:Int) (w:Int))with bR:=H.bR.set t {g with bQ:=[(k,(v::vs).map λ(x:Nat)=>(x:Int))]}},some .fill,0,0):=by
   simp only[WG,hv,Ki];rw[zB aA,ZQ (g:=g) (by exact hg),G];rfl
  have e:=Qx (H1:=H.cE (H.own t) (YQ (H.eM t) (k:Int) (w:Int))) C A;rw[hv]at wi i B;have u:((v::vs).map λ(x:Nat)=>(x:Int)).Nodup:=List.Pairwise.map (R:=(· ≠ ·)) _ (λa b F e=>F O) B;have app:=Es (held:=held) (new:=(v::vs).map λy=>(⟨H.own t,(k:Int),y,pC H.tb (k:Int),false⟩:Pc)) (cl:=(k:Int)) (l:=(v::vs).map λ(x:Nat)=>(x:Int)) (λp j=>by
   obtain⟨y,m,rfl⟩:=zE.1 j;exact⟨rfl,rfl,zE.2 ⟨y,m,rfl⟩⟩) λx Q=>by
   obtain⟨y,m,rfl⟩:=zE.1 Q;exact⟨_,zE.2 ⟨y,m,rfl⟩,rfl⟩
  have new:=Bj wi;have hi:=h.fD hg (g':={g with bQ:=[(k,(v::vs).map λ(x:Nat)=>(x:Int))],ph:=some .fill}) (live':=H.live) wi h.na rfl (by simp[Wd.put]) (JW wi) (λM y=>by
   rw[Bf u (λy m=>by
    obtain⟨z,P,rfl⟩:=zE.1 m;exact new ⟨H.own t,(k:Int),z,pC H.tb (k:Int),false⟩ (zE.2 ⟨z,P,rfl⟩) _) app]
   unfold gT;rw[hph,G];simp only[jN,Vj,V3];omega) h.lk (λN E=>.inl E) (λs a j=>by cases j) ⟨d.ll,d.lo,λb hb=>by
    simp only[zN]at hb;subst hb;exact⟨D,by simp,by simp at i ⊢;omega⟩,by simp,by
    unfold iy;exact⟨k,(v:Int),vs.map λ(x:Nat)=>(x:Int),rfl,D,r,by simp at i ⊢;omega⟩⟩
  refine⟨iG.mk' hg d.hl trivial e hi (KS.refl _),.inl ?_⟩;rw[e,A];refine⟨_,_,rfl,rfl,zO C,⟨k,_,[],c,rfl,rfl,K,rfl⟩,?_⟩;simp[pR,hv]
theorem OR (h:HI H held s0)(hg:H.bR[t]?=some g){w:Nat}(hph:g.ph=some (.grow k w)){cl sz:Int}(hr:Rq H.tb g (.grow k w) cl sz):iG H t (.grow k w)/\tD H t (.grow k w) cl sz:=by
 have u:=(cY.1 hg).1;have b:=h.th g (h.mem hg);obtain⟨C,J,z,B⟩:g.bQ=[]/\k<H.tb.length/\(g.li k).os=[]/\1<=w/\w<=32:=by have:=b.ph;unfold iy at this;rw[hph]at this;exact this
 obtain⟨rfl,c,E,rfl⟩:=hr;have x:=h.eM t;have ga:=h.wi.ga _ _ x;obtain⟨e1,e2,D,r⟩:=h.na.cQ (H.eM t) (k:Int);have wi:=h.wi.grow x (k:Int);by_cases h0:Vv (H.eM t) H.sp (k:Int)=0
 ·have m:WG H t (.grow k w)=({{H.cE (H.own t) (cQ (H.eM t) H.sp (k:Int)).1 with sp:=(cQ (H.eM t) H.sp (k:Int)).2}with bR:=H.bR.set t g},some (.cL k w),0,0):=by
   have:H.bR.set t g=H.bR:=QK hg;rw[this];simp only[WG,h0,zU,Hw.cE]
  have e:=Qx (H1:={H.cE (H.own t) (cQ (H.eM t) H.sp (k:Int)).1 with sp:=(cQ (H.eM t) H.sp (k:Int)).2}) u m;have d:=RD ga (h.wi.ow _ _ x) (j:=k) (by rw[←e2];exact h0) B.1;rw[show(Wd.mk H.tb s0 H.bY held).sp=s0 from rfl,←e1]at d;rw[show(Wd.mk H.tb s0 H.bY held).sp=s0 from rfl,←e1]at wi;have hi:=h.fD hg (g':={g with ph:=some (.cL k w)}) (live':=H.live) wi D r.l (by simp[Wd.put]) (λp i _=>.inl i) (λF y=>by
   unfold gT;rw[hph];simp only[jN]) h.lk (λG A=>.inl A) (λs a i=>by cases i) ⟨b.ll,b.lo,b.hb,b.hl,by
    unfold iy;exact⟨C,J,z,B⟩⟩
  refine⟨iG.mk' hg b.hl trivial e hi r,.inl ?_⟩;rw[e,m];refine⟨_,_,rfl,rfl,zO u,⟨rfl,c,E,rfl⟩,?_⟩;have:=SX H t (cQ (H.eM t) H.sp (k:Int)).1 (h.kb t) (cQ (H.eM t) H.sp (k:Int)).2 (H.bR.set t {g with ph:=some (.cL k w)});simp only[pR];rw[this,zB d];omega
 ·have m:WG H t (.grow k w)=({{H.cE (H.own t) (cQ (H.eM t) H.sp (k:Int)).1 with sp:=(cQ (H.eM t) H.sp (k:Int)).2}with bR:=H.bR.set t g},none,0,Vv (H.eM t) H.sp (k:Int)):=by
   have:H.bR.set t g=H.bR:=QK hg;rw[this];simp only[WG,h0,jU,Hw.cE]
  have e:=Qx (H1:={H.cE (H.own t) (cQ (H.eM t) H.sp (k:Int)).1 with sp:=(cQ (H.eM t) H.sp (k:Int)).2}) u m;rw[show(Wd.mk H.tb s0 H.bY held).sp=s0 from rfl,←e1]at wi;have hi:=h.fD hg (g':={g with ph:=none}) (live':=H.live) wi D r.l (by simp[Wd.put]) (λp i _=>.inl i) (λF y=>by
   unfold gT;rw[hph];simp only[jN]) h.lk (λG A=>.inl A) (λs a i=>by cases i) ⟨b.ll,b.lo,b.hb,b.hl,by
    unfold iy;exact C⟩
  refine⟨iG.mk' hg b.hl trivial e hi r,.inr (.inl ?_)⟩;rw[e,m];exact⟨rfl,h0,rfl,rfl⟩
theorem Mz (h:HI H held s0)(hg:H.bR[t]?=some g)(hph:g.ph=some .fill){cl sz:Int}(hr:Rq H.tb g .fill cl sz):iG H t .fill/\tD H t .fill cl sz:=by
 have N:=(cY.1 hg).1;have i:=h.th g (h.mem hg);obtain⟨k,x,xs,A,F,j,L⟩:∃k x xs,g.bQ=[(k,x::xs)]/\k<H.tb.length/\(g.li k).os=[]/\xs.length<=128:=by have:=i.ph;unfold iy at this;rw[hph]at this;exact this
 obtain⟨k',W,r,c,w,rfl,G,rfl⟩:=hr;rw[A]at w;obtain⟨d, -⟩:=List.cons.inj w;obtain rfl:k=k':=congrArg Prod.fst d;obtain⟨l,hl,u,D,Q⟩:=i.li F;have p:=GX hg;rw[u]at j;have m:(eL xs.reverse l).os=xs.reverse:=by unfold eL;rw[j,zB aE];simp
 have J:WG H t .fill=({{H with live:=dA H.live x (x,(c.size:Int),(k:Int),Yd H.bY x)}with bR:=H.bR.set t {ls:=g.ls.set k (eL xs.reverse l),bQ:=[],ph:=g.ph}},none,x,0):=by
  simp only[WG,p,A,Uy G,VX,ZQ hg,u]
 have e:=Qx N J;have z:1<=gT g (k:Int) x:=by
  unfold gT;rw[A,Vj,zC rfl];have:1<=(x::xs).count x:=DD.2 aA;simp only;omega
 have K:=h.qT (h.mem hg) z;have E:=h.mh (h.mem hg) z;obtain⟨M,R⟩:=i.il (k:=k) (yN (xs:=xs.reverse) D) (by rw[m];simp;omega);have hi:=h.kO hg (g':={ls:=g.ls.set k (eL xs.reverse l),bQ:=[],ph:=none}) (live':=dA H.live x (x,(c.size:Int),(k:Int),Yd H.bY x)) (λk' y=>by
  rw[B3 _ E];have B:=AB hl (eL xs.reverse l) k' y;rw[j,m,List.count_reverse,List.count_nil]at B;have U:(x::xs).count y=[x].count y+xs.count y:=wK (l₁:=[x]) (l₂:=xs);unfold gT;rw[hph,A];simp only[jN,Vj,V3];by_cases d:(k:Int)=k'
  ·simp only[d,zU]at B ⊢;omega
  ·simp only[d,jU]at B ⊢;omega)
  (Go.Vc.hU h.lk) (λV C=>by
   rcases(yI E).1 C with C|rfl
   ·exact .inl C
   ·exact .inr (h.yn K G))
  (λs a P=>by cases P) ⟨M,R,λb S=>by simp at S,by simp,by unfold iy;rfl⟩
 refine⟨iG.mk' hg i.hl ⟨k,x,xs,[],by rw[p];exact A,F,(h.i63 K).1,by rw[p,u,j];simp;omega⟩ e hi (KS.refl _),.inr (.inr ?_)⟩;rw[e,J];exact⟨rfl,rfl,E,rfl⟩
theorem S5 (h:HI H held s0)(hg:H.bR[t]?=some g){m:Nat}(hph:g.ph=some (.eP m)){cl sz:Int}(hr:Rq H.tb g (.eP m) cl sz):iG H t (.eP m)/\tD H t (.eP m) cl sz:=by
 have J:=(cY.1 hg).1;have b:=h.th g (h.mem hg);obtain⟨N,R,S⟩:g.bQ=[]/\1<=m/\m<=64:=by have:=b.ph;unfold iy at this;rw[hph]at this;exact this
 obtain⟨rfl,rfl⟩:=hr;have K:=h.eM t;have ga:=h.wi.ga _ _ K;obtain⟨e1,e2,P,M,D⟩:=h.na.cC (H.eM t) (m:Int) 1;have wi:=h.wi.xC K (m:Int) 1;rw[show(Wd.mk H.tb s0 H.bY held).sp=s0 from rfl,←e1,←e2,←P]at wi;by_cases h0:QZ (H.eM t) H.sp (m:Int) 1=0
 ·rw[zC h0]at wi;have j:=Bj wi;have z:=Es (held:=held) (new:=[(⟨H.own t, -1,Qy (H.eM t) H.sp (m:Int) 1*256,(m:Int).toNat*256,false⟩:Pc)]) (cl:=-1) (l:=[((Qy (H.eM t) H.sp (m:Int) 1*256:Nat):Int)]) (λp d=>by
   simp only[zN]at d;subst d;exact⟨rfl,rfl,by simp⟩) λx C=>by
   simp only[zN]at C;subst C;exact⟨_,zN.2 rfl,rfl⟩
  have i:(⟨H.own t, -1,Qy (H.eM t) H.sp (m:Int) 1*256,(m:Int).toNat*256,false⟩:Pc)∈held++[(⟨H.own t, -1,Qy (H.eM t) H.sp (m:Int) 1*256,(m:Int).toNat*256,false⟩:Pc)]:=by simp
  have G:=wi.size_pos i;have u:=wi.jR i;have F:=wi.owner i (x:=Qy (H.eM t) H.sp (m:Int) 1*256) (zD _) (by simp only at G ⊢;omega);generalize B:Qy (H.eM t) H.sp (m:Int) 1=V at *;have r:bU H.live ((V*256:Nat):Int)=none:=h.uR λE U=>j _ (zN.2 rfl) E U;have A:WG H t (.eP m)=({{H.cE (H.own t) (cC (H.eM t) H.sp (m:Int) 1).1 with sp:=(cC (H.eM t) H.sp (m:Int) 1).2,live:=dA H.live ((V*256:Nat):Int) (((V*256:Nat):Int),((m*256:Nat):Int), -1,Yd (H.bY.set (H.own t) (cC (H.eM t) H.sp (m:Int) 1).1) ((V*256:Nat):Int))}with bR:=H.bR.set t g},none,((V*256:Nat):Int),0):=by
   have:H.bR.set t g=H.bR:=QK hg;rw[this];simp only[WG,h0,zU,Hw.cE,VX,B]
  have e:=Qx (H1:={H.cE (H.own t) (cC (H.eM t) H.sp (m:Int) 1).1 with sp:=(cC (H.eM t) H.sp (m:Int) 1).2,live:=dA H.live ((V*256:Nat):Int) (((V*256:Nat):Int),((m*256:Nat):Int), -1,Yd (H.bY.set (H.own t) (cC (H.eM t) H.sp (m:Int) 1).1) ((V*256:Nat):Int))}) J A;have hi:=h.fD hg (g':={g with ph:=none}) (live':=dA H.live ((V*256:Nat):Int) (((V*256:Nat):Int),((m*256:Nat):Int), -1,Yd (H.bY.set (H.own t) (cC (H.eM t) H.sp (m:Int) 1).1) ((V*256:Nat):Int))) wi M D.l (by simp[Wd.put]) (JW wi) (λE y=>by
   rw[B3 _ r,Bf (l:=[((V*256:Nat):Int)]) (cl:=-1) aA (λy L=>by
    simp only[zN]at L;subst L;exact j _ (zN.2 rfl) _) z]
   unfold gT;rw[hph];simp only[jN];omega) (Go.Vc.hU h.lk) (λQ w=>by
    rcases(yI r).1 w with w|rfl
    ·exact .inl w
    ·refine .inr ⟨rfl,_,i,rfl,rfl,rfl,?_,?_⟩
     ·simp
     ·exact F) (λs a d=>by cases d) ⟨b.ll,b.lo,b.hb,b.hl,by
    unfold iy;exact N⟩
  refine⟨iG.mk' hg b.hl ?_ e hi D,.inr (.inr ?_)⟩
  ·show Qy (H.eM t) H.sp (m:Int) 1<=1000000;rw[B];simp only at u;omega
  ·rw[e,A];exact⟨rfl,rfl,r,rfl⟩
 ·rw[zB h0]at wi;have B:Qy (H.eM t) H.sp (m:Int) 1=0:=by
   unfold QZ at h0;unfold Qy;split
   ·rename_i d;rw[d,zC rfl]at h0;split at h0
    ·exact(h0 rfl).elim
    ·rename_i hn;cases C:(dC (H.eM t) H.sp (m:Int).toNat (1:Int).toNat 41).1 with
     | none=>rfl
     | some y=>rw[C]at hn;simp at hn
   ·rfl
  have A:WG H t (.eP m)=({{H.cE (H.own t) (cC (H.eM t) H.sp (m:Int) 1).1 with sp:=(cC (H.eM t) H.sp (m:Int) 1).2}with bR:=H.bR.set t g},none,0,QZ (H.eM t) H.sp (m:Int) 1):=by
   have:H.bR.set t g=H.bR:=QK hg;rw[this];simp only[WG,h0,jU,Hw.cE]
  have e:=Qx (H1:={H.cE (H.own t) (cC (H.eM t) H.sp (m:Int) 1).1 with sp:=(cC (H.eM t) H.sp (m:Int) 1).2}) J A;have hi:=h.fD hg (g':={g with ph:=none}) (live':=H.live) wi M D.l (by simp[Wd.put]) (λp d _=>.inl d) (λE y=>by
   unfold gT;rw[hph];simp only[jN]) h.lk (λQ w=>.inl w) (λs a d=>by cases d) ⟨b.ll,b.lo,b.hb,b.hl,by
    unfold iy;exact N⟩
  refine⟨iG.mk' hg b.hl ?_ e hi D,.inr (.inl ?_)⟩
  ·show Qy (H.eM t) H.sp (m:Int) 1<=1000000;rw[B];omega
  ·rw[e,A];exact⟨rfl,h0,rfl,rfl⟩
theorem MC {W:Wd}(h:WI W)(hk:W.bY[k]?=some A){j:Nat}{l:List Int}(hl:∀x∈l,∃p∈W.held,l8 k (j:Int) x p=true)(hn:l.Nodup)(hj:j<W.tb.length):Kr A (j:Int) l=0/\WI (W.put k (ZT A (j:Int) l) W.sp (W.held.filter λp=>!eI k (j:Int) l p)):=by
 have ga:=h.ga k A hk;have d:jA W.held k (j:Int) l=true:=Vo.2 ⟨hl,hn⟩;obtain⟨c,z,_,g,_⟩:=ga.cl (k:=j) (by rw[h.tb k A hk];exact hj);have i:Kr A (j:Int) l=0:=by
  rw[GC ga g];refine FZ ⟨λx w=>?_,hn⟩;obtain⟨p,m,b⟩:=hl x w;obtain⟨s,r,u,y⟩:=Vn.1 b;obtain⟨_,_,_,a,_⟩:=h.cls m r (by rw[s];exact hk);rw[u]at a;exact(VM g).1 a
 refine⟨i,?_⟩;have:=h.Nl hk d;rw[zC i,h.yE d]at this;exact this
theorem F9 {xs:List Int}{tb:List cA}{ars0:List AR}(hH:H.tb=tb)(h:WI ⟨tb,s0,H.bY,held⟩)(hk:k<tb.length)(hxs:∀x∈xs,Um held (k:Int) x)(hn:xs.Nodup)(ha:∀p∈held,Yd ars0 (p.addr:Int)=(p.k:Int)):∀j,j<=H.bY.length →
 ∃ars',VN H k (Z3 ars0 xs) (List.range j) = {H with bY:=ars'}/\ars'.length=H.bY.length/\WI ⟨tb,s0,ars',held.filter λp=>!(decide (p.k<j)&&(p.cls==(k:Int)&&xs.contains (p.addr:Int)))⟩
 | 0,_=>by
  refine⟨H.bY,rfl,rfl,?_⟩;have:(held.filter λp=>!(decide (p.k<0)&&(p.cls==(k:Int)&&xs.contains (p.addr:Int))))=held:=qH.2 λp _=>by simp
  rw[this];exact h
 | j+1,hj=>by
  obtain⟨ars',e,y,w⟩:=F9 hH h hk hxs hn ha j O;rw[VF,e];have s:ars'[j]?=some (ars'[j]' O):=cX _;simp only[s];have b:∀{p:Pc},p∈held->p.k=j->((p.addr:Int)∈Z3 ars0 xs j↔(p.addr:Int)∈xs):=λ{p} d a=>by
   unfold Z3;rw[zL,ha p d,a];simp
  have g:((held.filter λp=>!(decide (p.k<j)&&(p.cls==(k:Int)&&xs.contains (p.addr:Int)))).filter λp=>!eI j (k:Int) (Z3 ars0 xs j) p)=held.filter λp=>!(decide (p.k<j+1)&&(p.cls==(k:Int)&&xs.contains (p.addr:Int))):=by
   rw[Cu];apply vX;intro p d;have e1:eI j (k:Int) (Z3 ars0 xs j) p=(p.k==j&&(p.cls==(k:Int)&&xs.contains (p.addr:Int))):=by
    unfold eI;by_cases a:p.k=j
    ·have:=b d a;have e2:(Z3 ars0 xs j).contains (p.addr:Int)=xs.contains (p.addr:Int):=by
      rw[kA,yU,yU];exact this
     rw[e2]
    ·have:(p.k==j)=false:=by simpa using a
     rw[this];rfl
   rw[e1];have B:decide (p.k<j+1)=(decide (p.k<j)||p.k==j):=by
    rw[kA];simp;omega
   rw[B];cases p.k==j<;>cases decide (p.k<j)<;>cases(p.cls==(k:Int)&&xs.contains (p.addr:Int))<;>rfl
  by_cases d:Z3 ars0 xs j=[]
  ·rw[zC d];refine⟨ars',rfl,y,?_⟩;rw[←g,d];have:∀p:Pc,(!eI j (k:Int) [] p)=true:=λp=>by simp[eI]
   rw[qH.2 λp _=>this p];exact w
  ·rw[zB d];refine⟨ars'.set j (ZT (ars'[j]' O) (k:Int) (Z3 ars0 xs j)),by simp[Hw.cE],by simp[y],?_⟩;rw[←g];refine(MC w s (j:=k) (l:=Z3 ars0 xs j) (λx r=>?_) (hn.sublist uT) hk).2;unfold Z3 at r;obtain⟨m,i⟩:=zL.1 r;obtain⟨p,d,A,z,u⟩:=hxs x m;have a:p.k=j:=by
    have:=ha p d;rw[u]at this;rw[this]at i;have:(p.k:Int)=(j:Int):=by simpa using i
    omega
   exact⟨p,zL.2 ⟨d,by simp[a]⟩,Vn.2 ⟨a,z,u,A⟩⟩
theorem SW {tb:List cA}(hH:H.tb=tb)(h:WI ⟨tb,s0,H.bY,held⟩){own:Nat}(hown:own<H.bY.length)(hk:k<tb.length){xs:List Int}(hxs:∀x∈xs,Um held (k:Int) x)(hn:xs.Nodup) :
 ∃ars' held',Gp H own k xs = {H with bY:=ars'}/\ars'.length=H.bY.length/\WI ⟨tb,s0,ars',held'⟩/\(∀c x,Um held' c x↔Um held c x/\¬(c=(k:Int)/\x∈xs))/\∀p∈held',p.eU=false->p∈held:=by
 have s:H.bY[own]?=some H.bY[own]:=cX hown;have y:∀p∈held,Yd H.bY (p.addr:Int)=(p.k:Int):=λp a=>h.owner a (zD _) (by have:=(h.size_pos a).1;omega);have all:∃ars' held',VN H k (Z3 H.bY xs) (List.range H.bY.length) = {H with bY:=ars'}/\ars'.length=H.bY.length/\WI ⟨tb,s0,ars',held'⟩/\(∀c x,Um held' c x↔Um held c x/\¬(c=(k:Int)/\x∈xs))/\∀p∈held',p.eU=false->p∈held:=by
  obtain⟨ars',e,u,j⟩:=F9 hH h hk hxs hn y H.bY.length (zD _);refine⟨ars',_,e,u,j,λc x=>?_,λp a _=>(zL.1 a).1⟩;constructor
  ·rintro⟨p,a,i,g,d⟩;obtain⟨a,hf⟩:=zL.1 a;refine⟨⟨p,a,i,g,d⟩,?_⟩;rintro⟨rfl,b⟩;obtain⟨B,z,_⟩:=h.hf p a;have r:p.k<H.bY.length:=(cY.1 z).1;rw[g,d]at hf;simp[r,b]at hf
  ·rintro⟨⟨p,a,i,g,d⟩,hno⟩;refine⟨p,zL.2 ⟨a,?_⟩,i,g,d⟩;rw[g,d];by_cases hc:c=(k:Int)
   ·have:x∉xs:=λb=>hno ⟨hc,b⟩;simp[this]
   ·simp[hc]
 unfold Gp;rw[s];simp only;by_cases hcond:(Z3 H.bY xs own).length=xs.length/\VB H.bY[own] (k:Int) xs=true
 ·rw[zC hcond];have m:∀x∈xs,Yd H.bY x=(own:Int):=by
   have i:Z3 H.bY xs own=xs:=by
    unfold Z3 at hcond ⊢;exact List.filter_sublist.eq_of_length hcond.1
   intro x b;rw[←i]at b;unfold Z3 at b;simpa using(zL.1 b).2
  have w:jA held own (k:Int) xs=true:=Vo.2 ⟨λx b=>by
   obtain⟨p,a,i,g,d⟩:=hxs x b;have A:=y p a;rw[d,m x b]at A;exact⟨p,a,Vn.2 ⟨O,g,d,i⟩⟩,hn⟩
  have j:=h.LG s w;rw[zC hcond.2]at j;exact⟨_,_,rfl,by simp[Hw.cE],j,N1 h w,TQ⟩
 ·rw[zB hcond];have e:(if(Z3 H.bY xs own).length=xs.length then H.cE own (KB H.bY[own] (k:Int) xs)else H)=H:=by
   split
   ·rename_i u;have C:VB H.bY[own] (k:Int) xs=false:=by
     apply nY.2;intro b;exact hcond ⟨u,b⟩
    have:KB H.bY[own] (k:Int) xs=H.bY[own]:=by unfold KB;rw[C];rfl
    rw[this];exact I7 s
   ·rfl
  rw[e];exact all
def lI:Ph->Prop
 | .find _=>True
 | .put _ _=>True
 | .back=>True
 | .dG _ _=>True
 | .drain=>True
 | _=>False
def qy (g:Th):Ph->Nat
 | .find _=>101
 | .put _ _=>100
 | .drain=>100
 | .back=>g.bQ.length
 | _=>0
def nM (H:Hw)(t:Nat)(g:Th)(p:Ph):Prop:=(WG H t p).2.2.1=0 ∧
 ((∃p' g',(WG H t p).2.1=some p'/\lI p'/\(∀x,p'≠.find x)/\(Q9 H t p).bR[t]?=some g'/\qy g' p'<qy g p)\/(WG H t p).2.1=none) ∧
 ((∀x,p≠.find x)->(WG H t p).2.2.2=0/\(Q9 H t p).live=H.live) ∧
 (∀x,p=.find x->(bU H.live x=none->(WG H t p).2.1=none/\(WG H t p).2.2.2≠0/\(Q9 H t p).live=H.live)/\(∀b,bU H.live x=some b->(WG H t p).2.2.2=0/\(Q9 H t p).live=cO H.live x))
theorem DG (hg:H.bR[t]?=some g):j8 H t=if g.bQ=[]then none else some .back:=by unfold j8;rw[hg]
theorem T5 (h:HI H held s0)(hg:H.bR[t]?=some g){x:Int}(hph:g.ph=some (.find x)):iG H t (.find x)/\nM H t g (.find x):=by
 have F:=(cY.1 hg).1;have d:=h.th g (h.mem hg);obtain⟨N,C⟩:g.bQ=[]/\iN x:=by have:=d.ph;unfold iy at this;rw[hph]at this;exact this
 have U:∀A∈H.bY,iQ A:=λA R=>by
  obtain⟨j,hj⟩:=zP R;exact(h.wi.ga j A hj).pq
 cases hm:bU H.live x with
 | none=>
  have z:WG H t (.find x)=({H with bR:=H.bR.set t g},none,0,l0 H x):=by
   have:H.bR.set t g=H.bR:=QK hg;rw[this];simp only[WG,Ho,hm]
  have e:=Qx F z;have hi:=h.kO hg (g':={g with ph:=none}) (live':=H.live) (λE x=>by
   unfold gT;rw[hph];simp only[jN]) h.lk (λV G=>.inl G) (λs a M=>by cases M) ⟨d.ll,d.lo,d.hb,d.hl,by
    unfold iy;exact N⟩
  refine⟨iG.mk' hg d.hl ⟨C,λ_=>U,λb hb=>by rw[hm]at hb;cases hb⟩ e hi (KS.refl _),?_⟩;unfold nM;rw[e,z];refine⟨rfl,.inr rfl,λi=>(i x rfl).elim,λy m=>?_⟩;cases m;refine⟨λ_=>⟨rfl,?_,rfl⟩,(λb hb=>by rw[hm]at hb;cases hb)⟩;show l0 H x≠0;unfold l0
  repeat' split
  all_goals simp
 | some b=>
  have S:=Z8 hm;obtain⟨_,p,M,Z,P,Y,h4,X⟩:=h.lv _ S;simp only at P Y h4 X;have Q:0<=x:=by omega
  obtain⟨A,R,hd⟩:=h.wi.hf p M;have W:vF H t (.find x):=⟨C,(λi=>by rw[hm]at i;cases i),λ_ _=>Q⟩;rcases hd with⟨c1,_,r,hr,c2,c3⟩|⟨j,c,c1,c2,c3,_⟩
  ·have D:b.2.2.1 = -1:=by rw[←P,c1]
   have z:WG H t (.find x)=({{H with live:=cO H.live x}with bR:=H.bR.set t g},some (.dG (x/256) b.2.2.2),0,0):=by
    have:H.bR.set t g=H.bR:=QK hg;rw[this];simp only[WG,Ho,hm];rw[zC O]
   have e:=Qx (H1:={H with live:=cO H.live x}) F z;have u:x/256*256=x:=by omega
   have hi:=h.kO hg (g':={g with ph:=some (.dG (x/256) b.2.2.2)}) (live':=cO H.live x) (λE y=>by
    have w:=Ea h.lk hm E y;rw[D]at w;unfold gT;rw[hph];simp only[jN,u];by_cases m:x=y
    ·subst m;rw[C2]at w;by_cases hk : -1=E
     ·rw[zC hk]at w;rw[zC ⟨hk.symm,rfl⟩];omega
     ·rw[zB hk]at w;rw[zB (λC=>hk C.1.symm)];omega
    ·have:[x].count y=0:=As.2 aE;rw[this]at w;rw[zB (λC=>m C.2.symm)];split at w<;>omega)
    (Go.Vc.jz h.lk) (λV G=>.inl (Au.1 G).1) (λs a B=>by
     cases B;exact⟨p,M,Z,c1,by rw[u];exact Y,X⟩) ⟨d.ll,d.lo,d.hb,d.hl,by
      unfold iy;exact N⟩
   refine⟨iG.mk' hg d.hl W e hi (KS.refl _),?_⟩;unfold nM;rw[e,z];refine⟨rfl,.inl ⟨_,_,rfl,trivial,(λy m=>by cases m),zO F,by simp[qy]⟩,λi=>(i x rfl).elim,λy m=>?_⟩;cases m;exact⟨(λi=>by rw[hm]at i;cases i),λ_ _=>⟨rfl,rfl⟩⟩
  ·have L:b.2.2.1=(j:Int):=by rw[←P,c1]
   have K:j<H.tb.length:=by
    rw[h.wi.tb _ _ R]at c2;exact(cY.1 c2).1
   have z:WG H t (.find x)=({{H with live:=cO H.live x}with bR:=H.bR.set t {g with bQ:=[(j,[x])]}},some (.put j x),0,0):=by
    simp only[WG,Ho,hm];rw[zB O,L,dH];unfold Ki;rw[ZQ (g:=g) (by exact hg),N];rfl
   have e:=Qx (H1:={H with live:=cO H.live x}) F z;have hi:=h.kO hg (g':={g with bQ:=[(j,[x])],ph:=some (.put j x)}) (live':=cO H.live x) (λE y=>by
    have w:=Ea h.lk hm E y;rw[L]at w;unfold gT;rw[hph,N];simp only[jN,Vj,V3];omega)
    (Go.Vc.jz h.lk) (λV G=>.inl (Au.1 G).1) (λs a B=>by cases B) ⟨d.ll,d.lo,λb' J=>by
     simp only[zN]at J;subst J;exact⟨K,by simp,by simp⟩,by simp,by
     unfold iy;exact⟨rfl,K⟩⟩
   refine⟨iG.mk' hg d.hl W e hi (KS.refl _),?_⟩;unfold nM;rw[e,z];refine⟨rfl,.inl ⟨_,_,rfl,trivial,(λy m=>by cases m),zO F,by simp[qy]⟩,λi=>(i x rfl).elim,λy m=>?_⟩;cases m;exact⟨(λi=>by rw[hm]at i;cases i),λ_ _=>⟨rfl,rfl⟩⟩
theorem JB {f:cA->Li->List Int×Li}{tb:List cA}{ls:List Li}{b:Bt}(h:b∈KH f tb ls):b.1<tb.length/\b.2≠[]/\∃c∈tb,∃l∈ls,b.2=(f c l).1:=by
 unfold KH at h;obtain⟨k,d,a⟩:=wz.1 h;split at a
 ·rename_i c l hc hl;split at a
  ·cases a
  ·cases a;exact⟨zg.1 d,by assumption,c,zG hc,l,zG hl,rfl⟩
 ·cases a
theorem Ld {f:cA->Li->List Int×Li}{tb:List cA}{ls:List Li}{l':Li}(h:l'∈KC f tb ls):∃c∈tb,∃l∈ls,l'=(f c l).2:=by
 unfold KC at h;obtain⟨i,hi⟩:=zP h;rw[Da]at hi;split at hi
 ·rename_i c l hc hl;cases hi;exact⟨c,zG hc,l,zG hl,rfl⟩
 ·cases hi
theorem IC {f:cA->Li->List Int×Li}{tb:List cA}{ls:List Li}(h:ls.length=tb.length):(KC f tb ls).length=tb.length:=by
 unfold KC;rw[List.length_zipWith];omega
theorem Jr (c:cA)(l:Li):(Vp c l).2.os.length<=l.os.length/\(Vp c l).1.length<=l.os.length:=by
 simp only[Vp,gM,ky,zY];omega
theorem IN (c:cA)(l:Li):(Z4 c l).2.os.length<=l.os.length/\(Z4 c l).1.length<=l.os.length:=by
 simp only[Z4,gM,ky,zY];omega
theorem My (h:HI H held s0)(hg:H.bR[t]?=some g)(hph:g.ph=some .drain):iG H t .drain/\nM H t g .drain:=by
 have m:=(cY.1 hg).1;have d:=h.th g (h.mem hg);have G:g.bQ=[]:=by have:=d.ph;unfold iy at this;rw[hph]at this;exact this
 have A:=h.r6;have J:=Cz Z4 H.tb g.ls;have u:WG H t .drain=({H with bR:=H.bR.set t {g with ls:=KC Z4 H.tb g.ls,bQ:=KH Z4 H.tb g.ls}},(if KH Z4 H.tb g.ls=[]then none else some .back),0,0):=by
  simp only[WG,ZQ hg];rw[DG (g:={g with ls:=KC Z4 H.tb g.ls,bQ:=KH Z4 H.tb g.ls}) (by simp[m])]
 have e:=Qx m u;have hi:=h.kO hg (g':={ls:=KC Z4 H.tb g.ls,bQ:=KH Z4 H.tb g.ls,ph:=if KH Z4 H.tb g.ls=[]then none else some .back}) (live':=H.live) (λr x=>by
  have K:=EE (f:=Z4) RT d.ll r x;unfold gT;rw[hph,G];have:jN (if KH Z4 H.tb g.ls=[]then none else some Ph.back) r x=0:=by split<;>rfl
  simp only[this,V3];simp only[jN];omega) h.lk (λL C=>.inl C) (λs a p=>by
   simp only at p;split at p<;>cases p) ⟨IC d.ll,λl hl=>by
   obtain⟨c,_,j,i,rfl⟩:=Ld hl;have:=d.lo j i;have:=IN c j;exact⟨Oi (d.lo j i).1,O⟩,λb F=>by
   obtain⟨E,w,c,_,j,i,z⟩:=JB F;have:=d.lo j i;have:=IN c j;exact⟨E,w,by rw[z];omega⟩,by simp only;omega,by
   unfold iy;by_cases ho:KH Z4 H.tb g.ls=[]
   ·rw[zC ho];exact ho
   ·rw[zB ho];exact ho⟩
 refine⟨iG.mk' hg d.hl trivial e hi (KS.refl _),?_⟩;unfold nM;rw[e,u];refine⟨rfl,?_,λ_=>⟨rfl,rfl⟩,λx D=>by cases D⟩;by_cases ho:KH Z4 H.tb g.ls=[]
 ·exact .inr (by simp only;rw[zC ho])
 ·exact .inl ⟨.back,_,by simp only;rw[zB ho],trivial,(λy B=>by cases B),zO m,by simp only[qy];omega⟩
theorem NM (h:HI H held s0)(hg:H.bR[t]?=some g){s a:Int}(hph:g.ph=some (.dG s a)):iG H t (.dG s a)/\nM H t g (.dG s a):=by
 have N:=(cY.1 hg).1;have b:=h.th g (h.mem hg);have U:g.bQ=[]:=by have:=b.ph;unfold iy at this;rw[hph]at this;exact this
 obtain⟨p,C,V,M,h3,W⟩:=h.gv g (h.mem hg) s a hph;obtain⟨A,y,_⟩:=h.wi.hf p C;have m:H.bY[p.k]?=some A:=y;have S:=(cY.1 m).1;obtain⟨_,r,K,Z,Y⟩:=h.wi.run C M y;have ga:=h.wi.ga _ _ y;have d:s=(r.1:Int):=by omega
 have R:Vw A s=0:=by
  unfold Vw;rw[zC];unfold qx;rw[CP];exact⟨r,K,by simp[d]⟩
 have D:jA held p.k (-1) [s*256]=true:=by rw[d];exact h.wi.m9 y K
 have wi:=h.wi.wU y s;rw[zC R,h.wi.yE D]at wi;have w:a.toNat=p.k:=by omega
 have J:WG H t (.dG s a)=({H.cE p.k (Q8 A s)with bR:=H.bR.set t g},none,0,0):=by
  have:H.bR.set t g=H.bR:=QK hg;rw[this];simp only[WG,w,m,Hw.cE]
 have e:=Qx (H1:=H.cE p.k (Q8 A s)) N J;have hi:=h.fD hg (g':={g with ph:=none}) (live':=H.live) wi h.na rfl (by simp[Wd.put]) (λq E _=>.inl (zL.1 E).1) (λu x=>by
  have i:=IE (held':=held.filter λF=>!eI p.k (-1) [s*256] F) (l:=[s*256]) (cl:=-1) aA (Sr D) (Ty h.wi D) u x;have i:lx held u x=lx (held.filter λF=>!eI p.k (-1) [s*256] F) u x+(if -1=u then[s*256].count x else 0):=i
  unfold gT;rw[hph];simp only[jN];by_cases hy:s*256=x
  ·subst hy;rw[C2]at i;by_cases hk : -1=u
   ·rw[zC hk]at i;rw[zC ⟨hk.symm,rfl⟩];omega
   ·rw[zB hk]at i;rw[zB (λz=>hk z.1.symm)];omega
  ·have:[s*256].count x=0:=As.2 aE;rw[this]at i;rw[zB (λz=>hy z.2.symm)];split at i<;>omega) h.lk (λX P=>.inl P) (λs a C=>by cases C) ⟨b.ll,b.lo,b.hb,b.hl,by
   unfold iy;exact U⟩
 refine⟨iG.mk' hg b.hl ⟨O,O,λB L q E=>?_⟩ e hi (KS.refl _),?_⟩
 ·obtain⟨j,Q⟩:=zP L;have G:=h.wi.ga j B Q;have:=G.fit E;have:=G.pg.n2;omega
 ·unfold nM;rw[e,J];exact⟨rfl,.inr rfl,λ_=>⟨rfl,rfl⟩,λx z=>by cases z⟩
theorem RO (h:HI H held s0)(hg:H.bR[t]?=some g)(hph:g.ph=some .back):iG H t .back/\nM H t g .back:=by
 have E:=(cY.1 hg).1;have d:=h.th g (h.mem hg);have Q:g.bQ≠[]:=by have:=d.ph;unfold iy at this;rw[hph]at this;exact this
 have z:=GX hg;cases hhd:g.bQ with
 | nil=>exact(Q hhd).elim
 | cons b r=>
  obtain⟨k,C⟩:=b;obtain⟨K,A,D⟩:=d.hb (k,C) (by rw[hhd];simp);simp only at K A D;have j:∀x,C.count x<=gT g (k:Int) x:=λx=>by
   unfold gT;rw[hhd,Vj,zC rfl];simp only;omega
  have i:∀x∈C,Um held (k:Int) x:=λx u=>h.qT (h.mem hg) (kr (DD.2 u) (j x));have B:C.Nodup:=Dw.2 λx=>by
   have M:=j x;have U:=h.oO (h.mem hg) (k:Int) x;have W:=ES held (k:Int) x;omega
  obtain⟨m,F,R,G,wi,um,sub⟩:=SW (H:={H with bR:=H.bR.set t {g with bQ:=r}}) (tb:=H.tb) rfl h.wi (h.kb t) K i B;have L:WG H t .back=({{H with bY:=m}with bR:=H.bR.set t {g with bQ:=r}},(if r=[]then none else some .back),0,0):=by
   simp only[WG,z,hhd,ZQ hg,R];rw[DG (g:={g with bQ:=r}) (by simp[E])]
  have e:=Qx (H1:={H with bY:=m}) E L;have hi:=h.fD hg (g':={g with bQ:=r,ph:=if r=[]then none else some .back}) (live':=H.live) wi h.na rfl G (λp w S=>.inl (sub p w S)) (λJ x=>by
   have M:=IE B i um J x;unfold gT;rw[hph,hhd,Vj];have:jN (if r=[]then none else some Ph.back) J x=0:=by split<;>rfl
   simp only[this];simp only[jN];omega) h.lk (λV P=>.inl P) (λs a w=>by
    simp only at w;split at w<;>cases w) ⟨d.ll,d.lo,λb hb=>d.hb b (by rw[hhd];exact mg _ hb),by have:=d.hl;rw[hhd]at this;simp at this ⊢;omega,by
    unfold iy;by_cases ho:r=[]
    ·rw[zC ho];exact ho
    ·rw[zB ho];exact ho⟩
  refine⟨iG.mk' hg d.hl ⟨k,C,r,by rw[z];exact hhd,λx u=>⟨(h.i63 (i x u)).1,(h.i63 (i x u)).2.2⟩,O⟩ e hi (KS.refl _),?_⟩;unfold nM;rw[e,L];refine⟨rfl,?_,λ_=>⟨rfl,rfl⟩,λx u=>by cases u⟩;by_cases ho:r=[]
  ·exact .inr (by simp only;rw[zC ho])
  ·exact .inl ⟨.back,_,by simp only;rw[zB ho],trivial,(λy N=>by cases N),zO E,by simp only[qy];rw[hhd];simp⟩
theorem Woa (h:HI H held s0)(hg:H.bR[t]?=some g){x:Int}(hph:g.ph=some (.put k x)):iG H t (.put k x)/\nM H t g (.put k x):=by
 have B:=(cY.1 hg).1;have r:=h.th g (h.mem hg);obtain⟨L,J⟩:g.bQ=[(k,[x])]/\k<H.tb.length:=by have:=r.ph;unfold iy at this;rw[hph]at this;exact this
 obtain⟨c,hc,F⟩:=h.cls J;obtain⟨l,hl,aa,E,hlm⟩:=r.li J;have D:=GX hg;have h40:=h.r6;have V:=Mv (x:=x) F E;have U:=LW c x l O;have Z:(dM c x l).1.length<=129/\(dM c x l).2.os.length<=128:=by
  have ac:=E.lim;have z:(eL [x] l).os=l.os++[x]:=by unfold eL;rw[zB aE]
  have Y:(mN c (eL [x] l)).os=l.os++[x]:=by rw[←z];unfold mN;split<;>rfl
  unfold cA.ok at F;unfold dM;rw[zB O];split
  ·rw[z];simp;omega
  ·simp only[gM,Y,zY,ky,zK,rG];omega
 obtain⟨P,R⟩:=r.il (k:=k) V Z.2;have N:∃hs:List Bt,(if(dM c x l).1=[]then[]else[(k,(dM c x l).1)])=hs:=⟨_,rfl⟩
 obtain⟨i,j⟩:=N;have ab:i.length<=1:=by rw[←j];split<;>simp
 have u:∀b∈i,b.1<H.tb.length/\b.2≠[]/\b.2.length<=256:=λb p=>by
  rw[←j]at p;split at p
  ·simp at p
  ·simp only[zN]at p;subst p;exact⟨J,by assumption,by simp only;omega⟩
 have G:∀d y,mf i d y=if(k:Int)=d then(dM c x l).1.count y else 0:=λd y=>by
  rw[←j];split
  ·rename_i hn;rw[hn,V3];simp
  ·simp only[Vj,V3,ko]
 let g3:Th:={g with ls:=g.ls.set k (dM c x l).2,bQ:=i}
 let g4:Th:=if H.cf.dD<Ky H.tb g3.ls then{g3 with ls:=KC Vp H.tb g3.ls,bQ:=g3.bQ++KH Vp H.tb g3.ls}else g3
 have S:iC H t k x = {H with bR:=H.bR.set t g4}:=by
  have e2:(if(dM c x l).1=[]then H.eC t λh=>h.il k (dM c x l).2 else Ki (H.eC t λh=>h.il k (dM c x l).2) t k (dM c x l).1) = {H with bR:=H.bR.set t {g with ls:=g.ls.set k (dM c x l).2,bQ:=(k,[x])::i}}:=by
   rw[←j];split
   ·rw[ZQ hg,←L];rfl
   ·rw[ZQ hg];unfold Ki;rw[ZQ (g:=g.il k (dM c x l).2) (by simp[B])];simp only[nO,Th.il,L];rfl
  have e3:({H with bR:=H.bR.set t {g with ls:=g.ls.set k (dM c x l).2,bQ:=(k,[x])::i}}:Hw).eC t (λh=>{h with bQ:=h.bQ.drop 1}) = {H with bR:=H.bR.set t g3}:=by
   rw[ZQ (g:={g with ls:=g.ls.set k (dM c x l).2,bQ:=(k,[x])::i}) (by simp[B])];simp only[nO,wk,yM];rfl
  have w:({H with bR:=H.bR.set t g3}:Hw).bR[t]?=some g3:=by simp[B]
  unfold iC;simp only[Uy hc,D,aa,e2,e3,GX w,ZQ w,nO];show(if H.cf.dD<Ky H.tb g3.ls then _ else _)=_
  simp only[g4];split<;>rfl
 have hg4:g4.ph=g.ph:=by simp only[g4];split<;>rfl
 have X:∀d y,l4 g4.ls d y+mf g4.bQ d y=l4 g.ls d y+mf g.bQ d y:=λd y=>by
  have M:=AB hl (dM c x l).2 d y;have h2:=U y;have h3:l4 g3.ls d y+mf g3.bQ d y=l4 g.ls d y+mf g.bQ d y:=by
   simp only[g3];rw[G,L,Vj,V3];by_cases hkk:(k:Int)=d
   ·simp only[hkk,zU]at M ⊢;omega
   ·simp only[hkk,jU]at M ⊢;omega
  simp only[g4];split
  ·have h4:=EE (f:=Vp) Oe (tb:=H.tb) (ls:=g3.ls) P d y;simp only[Fs];omega
  ·exact h3
 have m:g4.ls.length=H.tb.length/\(∀l∈g4.ls,fQ l/\l.os.length<=128)/\(∀b∈g4.bQ,b.1<H.tb.length/\b.2≠[]/\b.2.length<=256)/\g4.bQ.length<=41:=by
  have hsl:=Cz Vp H.tb g3.ls;simp only[g4];split
  ·refine⟨IC P,λl hl=>?_,λb p=>?_,by simp only[zK,g3]at *;omega⟩
   ·obtain⟨K,W,C,A,rfl⟩:=Ld hl;have h5:=R C A;have:=Jr K C;exact⟨J8 (h.ok K W) h5.1,O⟩
   ·rcases zM.1 p with p|p
    ·exact u b p
    ·obtain⟨b1,b2,K,_,C,A,b3⟩:=JB p;have h5:=R C A;have:=Jr K C;exact⟨b1,b2,by rw[b3];omega⟩
  ·exact⟨P,R,u,by simp only[g3];omega⟩
 have hs:WG H t (.put k x)=({H with bR:=H.bR.set t g4},(if g4.bQ=[]then none else some .back),0,0):=by
  show(iC H t k x,j8 (iC H t k x) t,0,0)=_;rw[S,DG (g:=g4) (by simp[B])]
 have e:=Qx B hs;have hi:=h.kO hg (g':={g4 with ph:=if g4.bQ=[]then none else some .back}) (live':=H.live) (λd y=>by
  have M:=X d y;unfold gT;rw[hph];have:jN (if g4.bQ=[]then none else some Ph.back) d y=0:=by split<;>rfl
  simp only[this];simp only[jN];omega) h.lk (λe' he=>.inl he) (λs a Q=>by
   simp only at Q;split at Q<;>cases Q) ⟨m.1,m.2.1,m.2.2.1,m.2.2.2,by
   unfold iy;by_cases ho:g4.bQ=[]
   ·simp only[ho,zU]
   ·simp only[ho,jU];exact ho⟩
 refine⟨iG.mk' hg r.hl ⟨J,by rw[D,L];simp⟩ e hi (KS.refl _),?_⟩;unfold nM;rw[e,hs];refine⟨rfl,?_,λ_=>⟨rfl,rfl⟩,λx hx=>by cases hx⟩;by_cases ho:g4.bQ=[]
 ·exact .inr (by simp only;rw[zC ho])
 ·exact .inl ⟨.back,_,by simp only;rw[zB ho],trivial,(λy hy=>by cases hy),zO B,by simp only[qy];have:=m.2.2.2;omega⟩
end Go.Ar
namespace Go.Ar
open Go Go.Vc Go.Proofs
open Go.Bu (fB VG Hk)
variable {U u w w':Hp}{F B P Q:Rg}{L:dE}{H H':Hw}{t n:Nat}{g:Th}
def yG (size:Int):Int:=(size+255)/256*256
def oL (tb:List cA)(size align:Int):Int×Int:=
 if size<=16384/\He size align=true then(match ia tb size align with
  | some k=>((tb.getD k ⟨8,1,1⟩).size:Int)
  | none=>yG size,0)else(0,1)
theorem WjB {a:Int}(h1:1<=a)(h2:a<=256):(bits .and .i64 a (a-1) != 0) = !fB a:=by
 obtain⟨a,rfl⟩:=zc (show 0<=a by omega);rw[show(a:Int)-1=((a-1:Nat):Int) by omega,Go.Bu.ja O O,VG,←Hk O O];simp only[bne,Bool.not_inj_iff];rw[kA];simp only[zT];omega
def QV (sp:Sp)(x:Int):Int:=if eO sp x=0 then sp.wd (x.toNat/8)else 0
theorem Ct (h:HH U F L H)(x:Int)(hx:x<=9223372036854775807){R:Int->Int->Hp->Prop}(hR:∀σ',aG U σ'->R (QV H.sp x) (eO H.sp x) σ'):YG.c (aW L.p) x U R:=Mp h x hx hR
end Go.Ar
namespace Go.Ar
open Go Go.Vc Go.Proofs
variable {U u w w':Hp}{F B P Q:Rg}{L:dE}{H H':Hw}{t n:Nat}{g:Th}
def Kt (H:Hw)(x:Int):Option Int:=(bU H.live x).map λb=>b.2.1
theorem FG {tb:List cA}{size align:Int}{k:Nat}(h:ia tb size align=some k):k<tb.length:=(List.findIdx?_eq_some_iff_findIdx_eq.1 h).1
theorem Ib (h:HH U F L H)(x:Int){R:Int->Int->Hp->Prop}(hR:∀σ',aG U σ'->R ((Kt H x).getD 0) (if(Kt H x).isSome then 0 else 8) σ'):XR.c (aW L.p) x U R:=by
 refine Wgb h x λσ' e=>?_;have:=hR σ' e;unfold Kt at this;cases hm:bU H.live x with
 | none=>rw[hm]at this;exact this
 | some b=>rw[hm]at this;exact this
end Go.Ar
namespace Go.Ar
open Go.Vc (bU dA cO)
variable {H H':Hw}{held:List Pc}{s0:Sp}{t k j:Nat}{g:Th}{A:AR}{c:cA}
theorem Vh (f:Th->Th)(hj:j≠t):(H.eC t f).bR[j]?=H.bR[j]? := by
 simp[Hw.eC,uK,Ne.symm hj]
theorem Wlh (x:Int)(hj:j≠t):(iC H t k x).bR[j]?=H.bR[j]? := by
 unfold iC Ki;simp only;split<;>split<;>simp only[Vh _ hj]
theorem OT (p:Ph)(hj:j≠t):(WG H t p).1.bR[j]?=H.bR[j]? := by
 cases p with
 | take k=>simp only[WG];split<;>simp only[VX,Vh _ hj]
 | cI k w=>
  simp only[WG];split
  ·split
   ·unfold Ki;rw[Vh _ hj];rfl
   ·rfl
  ·rfl
 | cL k w=>
  simp only[WG];split
  ·rfl
  ·unfold Ki;rw[Vh _ hj];rfl
 | grow k w=>simp only[WG];split<;>rfl
 | fill=>simp only[WG];split<;>simp only[VX,Vh _ hj]
 | eP m=>simp only[WG];split<;>rfl
 | find x=>
  simp only[WG,Ho];split
  ·rfl
  ·split
   ·rfl
   ·unfold Ki;rw[Vh _ hj]
 | put k x=>exact Wlh x hj
 | back=>
  simp only[WG];split
  ·rw[Bc,Vh _ hj]
  ·rfl
 | dG s a=>simp only[WG];split<;>rfl
 | drain=>simp only[WG,Vh _ hj]
theorem UT (p:Ph)(hj:j≠t):(Q9 H t p).bR[j]?=H.bR[j]? := by
 unfold Q9 eY;rw[Vh _ hj,OT p hj]
def fF (H:Hw)(j:Nat):Option Ph:=(H.bR[j]?).bind (·.ph)
def xo (H H':Hw)(t:Nat):Prop:=fF H' t=none/\∀j,j≠t->fF H' j=fF H j
theorem Bz (h:HI H held s0)(hg:H.bR[t]?=some g){p:Ph}(hp:g.ph=some p)(hf:¬lI p):∃cl sz,Rq H.tb g p cl sz:=by
 have b:=(h.th g (h.mem hg)).ph;unfold iy at b;rw[hp]at b;cases p with
 | take k=>obtain⟨c,d,_⟩:=h.cls b.2;exact⟨_,_,rfl,c,d,rfl⟩
 | cI k w=>obtain⟨c,d,_⟩:=h.cls b.2.1;exact⟨_,_,rfl,c,d,rfl⟩
 | cL k w=>obtain⟨c,d,_⟩:=h.cls b.2.1;exact⟨_,_,rfl,c,d,rfl⟩
 | grow k w=>obtain⟨c,d,_⟩:=h.cls b.2.1;exact⟨_,_,rfl,c,d,rfl⟩
 | fill=>
  obtain⟨k,x,r,j,i,_⟩:=b;obtain⟨c,d,_⟩:=h.cls i;exact⟨_,_,k,_,[],c,j,rfl,d,rfl⟩
 | eP m=>exact⟨_,_,rfl,rfl⟩
 | find x=>exact(hf trivial).elim
 | put k x=>exact(hf trivial).elim
 | back=>exact(hf trivial).elim
 | dG s a=>exact(hf trivial).elim
 | drain=>exact(hf trivial).elim
theorem rE (h:HI H held s0)(hg:H.bR[t]?=some g){p:Ph}(hp:g.ph=some p){cl sz:Int}(hr:Rq H.tb g p cl sz):iG H t p/\tD H t p cl sz:=by
 cases p with
 | take k=>exact Ζ h hg hp hr
 | cI k w=>exact SJ h hg hp hr
 | cL k w=>exact PR h hg hp hr
 | grow k w=>exact OR h hg hp hr
 | fill=>exact Mz h hg hp hr
 | eP m=>exact S5 h hg hp hr
 | find x=>exact hr.elim
 | put k x=>exact hr.elim
 | back=>exact hr.elim
 | dG s a=>exact hr.elim
 | drain=>exact hr.elim
theorem rp (h:HI H held s0)(hg:H.bR[t]?=some g){p:Ph}(hp:g.ph=some p)(hf:lI p):iG H t p/\nM H t g p:=by
 cases p with
 | take k=>exact hf.elim
 | cI k w=>exact hf.elim
 | cL k w=>exact hf.elim
 | grow k w=>exact hf.elim
 | fill=>exact hf.elim
 | eP m=>exact hf.elim
 | find x=>exact T5 h hg hp
 | put k x=>exact Woa h hg hp
 | back=>exact RO h hg hp
 | dG s a=>exact NM h hg hp
 | drain=>exact My h hg hp
open Classical in
theorem HI.Pv (h:HI H held s0)(hg:H.bR[t]?=some g){p:Ph}(hp:g.ph=some p):iG H t p:=by
 by_cases hf:lI p
 ·exact(rp h hg hp hf).1
 ·obtain⟨cl,b,a⟩:=Bz h hg hp hf;exact(rE h hg hp a).1
theorem HW {p:Ph}(ht:t<H.bR.length):∃g',(Q9 H t p).bR[t]?=some g'/\g'.ph=(WG H t p).2.1:=EO ht
theorem Eu {cl sz:Int}:∀(n:Nat) {H:Hw} {held:List Pc} {s0:Sp} {g:Th} {p:Ph},HI H held s0->H.bR[t]?=some g->g.ph=some p->Rq H.tb g p cl sz->pR H t p<=n →
 ∃m H' a e,iI m H t p H' a e/\(∃held s0,HI H' held s0)/\KS H.sp H'.sp/\xo H H' t/\((e≠0/\a=0/\H'.live=H.live)\/(e=0/\bU H.live a=none/\H'.live=dA H.live a (a,sz,cl,Yd H'.bY a)))
 | n,H,held,s0,g,p,h,hg,hp,hr,hn=>by
  have ht:=(cY.1 hg).1;obtain⟨s,E⟩:=rE h hg hp hr;have i:(WG H t p).2.1=none->xo H (Q9 H t p) t:=λD=>by
   obtain⟨C,y,x⟩:=HW (p:=p) ht;exact⟨by unfold fF;rw[y];exact x.trans D,λj u=>by unfold fF;rw[UT p u]⟩
  rcases E with⟨p',C,e1,e2,e3,e4,e5⟩|⟨e1,e2,e3,e4⟩|⟨e1,e2,e3,e4⟩
  ·obtain⟨z,G,F⟩:=s.hi;obtain⟨J,d,kB⟩:=HW (p:=p) ht;rw[e3]at d;cases d;have w:(Q9 H t p).tb=H.tb:=(U0 H t p).1;have B:pR (Q9 H t p) t p'<n:=by omega
   obtain⟨m,H',a,e,r,hi,ks,A,b⟩:=Eu (pR (Q9 H t p) t p') F e3 (kB.trans e1) (by rw[w];exact e4) (zD _);refine⟨m+1,H',a,e,.next s.ok e1 r,hi,s.ks.trans ks,⟨A.1,λj u=>(A.2 j u).trans (by unfold fF;rw[UT p u])⟩,?_⟩;rw[e2]at b;exact b
  ·exact⟨1,_,_,_,.done s.ok e1,s.hi,s.ks,i e1,.inl ⟨e2,e3,e4⟩⟩
  ·exact⟨1,_,_,_,.done s.ok e1,s.hi,s.ks,i e1,.inr ⟨e2,e3,e4⟩⟩
termination_by n=>n
theorem Ff:∀(n:Nat) {H:Hw} {held:List Pc} {s0:Sp} {g:Th} {p:Ph},HI H held s0->H.bR[t]?=some g->g.ph=some p->lI p->qy g p<=n →
 ∃m H' e,iI m H t p H' 0 e/\(∃held s0,HI H' held s0)/\KS H.sp H'.sp/\xo H H' t/\((∀x,p≠.find x)->e=0/\H'.live=H.live) ∧
  (∀x,p=.find x->(bU H.live x=none->e≠0/\H'.live=H.live)/\(∀b,bU H.live x=some b->e=0/\H'.live=cO H.live x))
 | n,H,held,s0,g,p,h,hg,hp,hf,hn=>by
  have ht:=(cY.1 hg).1;obtain⟨s,Q,L,F,a⟩:=rp h hg hp hf;rcases L with⟨p',A,e1,e2,e3,e4,e5⟩|e1
  ·obtain⟨C,P,N⟩:=s.hi;obtain⟨R,i,kB⟩:=HW (p:=p) ht;rw[e4]at i;cases i;have K:qy A p'<n:=by omega
   obtain⟨m,H',e,r,hi,ks,J,w,_⟩:=Ff (qy A p') N e4 (kB.trans e1) e2 (zD _);obtain⟨G,E⟩:=w e3;refine⟨m+1,H',e,.next s.ok e1 r,hi,s.ks.trans ks,⟨J.1,λj u=>(J.2 j u).trans (by unfold fF;rw[UT p u])⟩,λd=>⟨G,E.trans (F d).2⟩,λx d=>⟨λD=>?_,λb M=>⟨G,E.trans ((a x d).2 b M).2⟩⟩⟩;have:=((a x d).1 D).1;rw[e1]at this;cases this
  ·have y:xo H (Q9 H t p) t:=by
    obtain⟨A,B,z⟩:=HW (p:=p) ht;exact⟨by unfold fF;rw[B];exact z.trans e1,λj u=>by unfold fF;rw[UT p u]⟩
   have r:=iI.done (H:=H) (t:=t) s.ok e1;rw[Q]at r;exact⟨1,_,_,r,s.hi,s.ks,y,F,λx d=>⟨λD=>((a x d).1 D).2,(a x d).2⟩⟩
termination_by n=>n
structure fS (H H':Hw):Prop where
 hi:∃held s0,HI H' held s0
 ks:KS H.sp H'.sp
 kp:QW H' H
 ph:∀j,fF H' j=fF H j
theorem fS.refl (h:HI H held s0):fS H H:=⟨⟨held,s0,h⟩,KS.refl _,QW.refl _,λ_=>rfl⟩
theorem fS.trans {H1 H2 H3:Hw}(a:fS H1 H2)(b:fS H2 H3):fS H1 H3:=⟨b.hi,a.ks.trans b.ks,a.kp.trans b.kp,λj=>(b.ph j).trans (a.ph j)⟩
theorem EV {tb:List cA}{kind size align addr:Int}{p:Ph}(h:iT tb kind size align addr=some p)(hx:iN addr)(hh:g.bQ=[]):iy tb.length {g with ph:=some p}:=by
 unfold iT at h;split at h
 ·split at h
  ·split at h
   ·split at h
    ·rename_i k hk;cases h;exact⟨hh,FG hk⟩
    ·cases h;exact⟨hh,O,O⟩
   ·cases h
  ·cases h
 ·split at h
  ·cases h;exact⟨hh,hx⟩
  ·split at h
   ·cases h;exact hh
   ·cases h
theorem HI.eY (h:HI H held s0)(hg:H.bR[t]?=some g)(hn:g.ph=none){p:Ph}(hp:iy H.tb.length {g with ph:=some p})(hq:∀s a,p≠.dG s a):HI (eY H t (some p)) held s0:=by
 have b:=h.th g (h.mem hg);have e:Go.Ar.eY H t (some p) = {H with bR:=H.bR.set t {g with ph:=some p}}:=ZQ hg _;rw[e];refine h.kO hg (live':=H.live) (λd x=>?_) h.lk (λj i=>.inl i) (λs a hp=>by cases hp;exact(hq s a rfl).elim) ⟨b.ll,b.lo,b.hb,b.hl,hp⟩;unfold gT;rw[hn];have:jN (some p) d x=0:=by
  cases p<;>first|rfl|exact(hq _ _ rfl).elim
 simp only[this];simp only[jN]
theorem Jo (h:HI H held s0)(hg:H.bR[t]?=some g)(hn:g.ph=none):g.bQ=[]:=by
 have:=(h.th g (h.mem hg)).ph;unfold iy at this;rw[hn]at this;exact this
theorem G0 (H:Hw)(thread kind size align addr:Int):(∃e,KY H thread kind size align addr=.inl e/\e≠0)\/∃(t:Nat) (p:Ph) (g:Th),thread=(t:Int)/\H.bR[t]?=some g/\g.ph=none/\iT H.tb kind size align addr=some p/\KY H thread kind size align addr=.inr (t,p):=by
 unfold KY;split
 ·split
  ·split
   ·split
    ·rename_i hth _ g hg hn _ p hp;exact .inr ⟨thread.toNat,p,g,O,hg,hn,hp,rfl⟩
    ·exact .inl ⟨1,rfl,by decide⟩
   ·exact .inl ⟨5,rfl,by decide⟩
  ·exact .inl ⟨1,rfl,by decide⟩
 ·exact .inl ⟨1,rfl,by decide⟩
theorem L8 (hg:H.bR[t]?=some g)(p:Option Ph)(hj:j≠t):fF (eY H t p) j=fF H j:=by
 unfold fF eY;rw[Vh _ hj]
theorem I4 (hg:H.bR[t]?=some g)(hn:g.ph=none){p:Ph}(ps:xo (eY H t (some p)) H' t):∀j,fF H' j=fF H j:=λj=>by
 by_cases hj:j=t
 ·subst hj;rw[ps.1];unfold fF;rw[hg];exact hn.symm
 ·rw[ps.2 j hj,L8 hg _ hj]
def rU (H:Hw)(size align:Int)(H':Hw)(a e:Int):Prop:=(e≠0/\a=0/\H'.live=H.live) ∨
 (e=0/\bU H.live a=none/\(1<=size/\size<=16384/\He size align=true)/\∃cl,H'.live=dA H.live a (a,(oL H.tb size align).1,cl,Yd H'.bY a)/\((∃k:Nat,cl=k/\ia H.tb size align=some k)\/cl = -1/\ia H.tb size align=none))
theorem Oh (h:HI H held s0)(thread size align:Int):∃H' a e,KG H thread 0 size align 0 H' a e/\fS H H'/\rU H size align H' a e:=by
 rcases G0 H thread 0 size align 0 with⟨e,hs,hne⟩|⟨t,p,g,rfl,hg,hn,hq,hs⟩
 ·exact⟨H,0,e,.inl ⟨hs,hne,rfl,rfl⟩,fS.refl h,.inl ⟨hne,rfl,rfl⟩⟩
 ·have D:=Jo h hg hn;have x:=EV (g:=g) hq (by unfold iN;decide) D;unfold iT at hq;rw[zC rfl]at hq;split at hq
  ·rename_i hsz;split at hq
   ·rename_i hok;have b:oL H.tb size align=(match ia H.tb size align with
     | some k=>((H.tb.getD k ⟨8,1,1⟩).size:Int)
     | none=>yG size,0):=by
     unfold oL;rw[zC ⟨hsz.2,hok⟩]
     first|done | (cases ia H.tb size align<;>rfl)
    obtain⟨cl,d,y⟩:∃cl,Rq H.tb {g with ph:=some p} p cl (oL H.tb size align).1/\((∃k:Nat,cl=k/\ia H.tb size align=some k)\/cl = -1/\ia H.tb size align=none):=by
     cases hcv:ia H.tb size align with
     | some k=>
      rw[hcv]at hq b;cases hq;have i:=FG hcv;have z:H.tb[k]?=some H.tb[k]:=cX i;refine⟨k,⟨rfl,H.tb[k],z,?_⟩,.inl ⟨k,rfl,rfl⟩⟩;rw[b];simp only;rw[zQ,z];rfl
     | none=>
      rw[hcv]at hq b;cases hq;refine⟨-1,⟨rfl,?_⟩,.inr ⟨rfl,rfl⟩⟩;rw[b];simp only;unfold yG;omega
    have w:∀s a,p≠.dG s a:=λs a e=>by subst e;exact d.elim
    have A:=h.eY hg hn x w;have j:(Go.Ar.eY H t (some p)).bR[t]?=some {g with ph:=some p}:=by
     have B:=(cY.1 hg).1;have e:Go.Ar.eY H t (some p) = {H with bR:=H.bR.set t {g with ph:=some p}}:=ZQ hg _;rw[e];simp[B]
    obtain⟨m,H',a,e,r,hi,ks,C,u⟩:=Eu _ A j rfl d (zD _);refine⟨H',a,e,.inr ⟨t,p,m,hs,r⟩,⟨hi,ks,(Vr _ _ _).trans (Ez r),I4 hg hn C⟩,?_⟩;rcases u with⟨r1,r2,r3⟩|⟨r1,r2,r3⟩
    ·exact .inl ⟨r1,r2,r3⟩
    ·exact .inr ⟨r1,r2,⟨hsz.1,hsz.2,hok⟩,cl,r3,y⟩
   ·cases hq
  ·cases hq
def nQ (H:Hw)(thread addr:Int)(H':Hw)(e:Int):Prop:=
 (e≠0/\H'=H/\KY H thread 1 0 0 addr=.inl e)\/((∃p,KY H thread 1 0 0 addr=.inr p)/\bU H.live addr=none/\e≠0/\H'.live=H.live)\/((∃p,KY H thread 1 0 0 addr=.inr p)/\∃b,bU H.live addr=some b/\e=0/\H'.live=cO H.live addr)
theorem Np (h:HI H held s0)(hg:H.bR[t]?=some g)(hn:g.ph=none){p:Ph}(hp:iy H.tb.length {g with ph:=some p})(hf:lI p)(hq:∀s a,p≠.dG s a):∃m H' e,iI m (eY H t (some p)) t p H' 0 e/\fS H H'/\((∀x,p≠.find x)->e=0/\H'.live=H.live) ∧
 (∀x,p=.find x->(bU H.live x=none->e≠0/\H'.live=H.live)/\(∀b,bU H.live x=some b->e=0/\H'.live=cO H.live x)):=by
 have w:=h.eY hg hn hp hq;have d:(Go.Ar.eY H t (some p)).bR[t]?=some {g with ph:=some p}:=by
  have y:=(cY.1 hg).1;have e:Go.Ar.eY H t (some p) = {H with bR:=H.bR.set t {g with ph:=some p}}:=ZQ hg _;rw[e];simp[y]
 obtain⟨m,H',e,r,hi,ks,u,j,i⟩:=Ff _ w d rfl hf (zD _);exact⟨m,H',e,r,⟨hi,ks,(Vr _ _ _).trans (Ez r),I4 hg hn u⟩,j,i⟩
theorem Ro (h:HI H held s0)(thread addr:Int)(hx:iN addr):∃H' e,KG H thread 1 0 0 addr H' 0 e/\fS H H'/\nQ H thread addr H' e:=by
 rcases G0 H thread 1 0 0 addr with⟨e,hs,hne⟩|⟨t,p,g,rfl,hg,hn,hq,hs⟩
 ·exact⟨H,e,.inl ⟨hs,hne,rfl,rfl⟩,fS.refl h,.inl ⟨hne,rfl,hs⟩⟩
 ·have d:=EV (g:=g) hq hx (Jo h hg hn);have j:p=.find addr:=by unfold iT at hq;simp at hq;exact hq.symm
  subst j;obtain⟨m,H',e,r,op,_,i⟩:=Np h hg hn d trivial (λs a e=>by cases e);refine⟨H',e,.inr ⟨t,_,m,hs,r⟩,op,?_⟩;cases hm:bU H.live addr with
  | none=>exact .inr (.inl ⟨⟨_,hs⟩,hm,(i addr rfl).1 hm⟩)
  | some b=>exact .inr (.inr ⟨⟨_,hs⟩,b,hm,(i addr rfl).2 b hm⟩)
end Go.Ar
namespace Go.Ar
open Go Go.Vc Go.Proofs
variable {U u w w':Hp}{F B P Q:Rg}{L:dE}{H H':Hw}{t n k:Nat}{A:AR}{Y:Lay}
theorem Fr.refl (A:AR):Fr A A:=⟨rfl,rfl,rfl⟩
theorem Fr.trans {A B C:AR}(h:Fr B A)(k:Fr C B):Fr C A:=⟨k.1.trans h.1,k.2.1.trans h.2.1,k.2.2.trans h.2.2⟩
end Go.Ar
namespace Go.Ar
variable {A:AR}
def qQ (tb:List cA)(n room m:Nat):Wd:=⟨tb,VY n,List.replicate m (fG n room tb),[]⟩
theorem TN {n room:Nat}{tb:List cA}(h1:32<=n)(h2:n<=1024)(h3:n%16=0)(h6:tb.length<=40)(h7:∀c∈tb,c.ok):GA (fG n room tb)/\∀p,(fG n room tb).f p=0:=by
 have g:∀p,(fG n room tb).f p=0:=λp=>by
  show(List.replicate n 0).getD p 0=0;rw[zQ,mH];split<;>rfl
 have a:∀{k:Nat} {i:List cH},(List.replicate tb.length ([]:List cH))[k]?=some i->i=[]:=λh=>by
  rw[mH]at h;split at h<;>simp at h;exact h
 have b:∀{k:Nat} {t:gQ},(List.replicate tb.length (⟨0,[]⟩:gQ))[k]?=some t->t.bs=[]:=λh=>by
  rw[mH]at h;split at h<;>simp at h;rw[←h]
 refine⟨⟨⟨by simp[fG],h1,h2,h3,λp=>by rw[g];omega,λp=>by rw[g];simp[fG],λp=>by rw[g];simp[fG,Go.Bu.iz],λp=>by rw[g,g]⟩,h6,by simp[fG],by simp[fG],λk c i d=>?_,λk c i d s m=>?_,λk c i d p=>?_,λp=>?_,λp=>.inr (Nat.zero_le _),by simp[fG],by simp[fG],λk t j=>?_,λk c i t d j=>?_,λk c t d j=>?_⟩,g⟩
 ·have e:=a d.2;subst e;exact⟨h7 c (zG d.1),by simp,by simp⟩
 ·have e:=a d.2;subst e;simp at m
 ·have e:=a d.2;subst e;constructor
  ·intro h;cases h
  ·rintro⟨s,m,_⟩;simp at m
 ·constructor
  ·intro h;cases h
  ·rintro⟨r,hr,_⟩;simp[fG]at hr
 ·have:=b j;rw[this];exact tz
 ·have:=b j;rw[this];simp
 ·have:=b j;rw[this];simp
theorem SB {tb:List cA}{n room m:Nat}(h1:32<=n)(h2:n<=1024)(h3:n%16=0)(h6:tb.length<=40)(h7:∀c∈tb,c.ok):WI (qQ tb n room m):=by
 obtain⟨w,d⟩:=TN (room:=room) h1 h2 h3 h6 h7;have get:∀{k:Nat} {A:AR},(qQ tb n room m).bY[k]?=some A->A=fG n room tb:=λ{k A} h=>by
  have h:(List.replicate m (fG n room tb))[k]?=some A:=h;rw[mH]at h;split at h<;>simp at h;exact h.symm
 have b:∀p,gf (VY n).st p=0:=λp=>by
  show(List.replicate n 0).getD p 0=0;rw[zQ,mH];split<;>rfl
 refine⟨λk A h=>by rw[get h];exact w,λk A h=>?_,λk A h=>by rw[get h];rfl,λk A h p a=>by rw[get h];exact d p,λp a=>(a (b p)).elim,λp k l A B E G h1 h2=>?_,tz,λp a=>by simp[qQ]at a,λk A h j y x=>?_,λk A h r z=>?_⟩
 ·rw[get h];exact⟨by simp[qQ,VY,fG],λp a=>(a (d p)).elim,λp a=>by rw[d p]at a;omega,λp=>by show gf (VY n).st p<=2;rw[b];omega⟩
 ·rw[get E]at h1;exact(h1 (d p)).elim
 ·rw[get h]at x;obtain⟨c,F,u,C⟩:=x;have g:F=[]:=by
   have h2:=u.2;simp only[fG]at h2;rw[mH]at h2;split at h2<;>simp at h2;exact h2
  subst g;obtain⟨H,s,i,D,_⟩:=(V9 (w.cG _ _ _ u)).1 C;simp at D
 ·rw[get h]at z;simp[fG]at z
end Go.Ar
namespace Go.Ar
open Go.Vc (bU dA cO)
variable {H H':Hw}{held:List Pc}{s0:Sp}{t k j:Nat}{g:Th}{A:AR}{c:cA}
theorem WnL {tb:List cA}{cf:Cf}(h1:32<=cf.aF)(h2:cf.aF<=1024)(h3:cf.aF%16=0)(h4:1<=cf.ij)(h6:tb.length<=40)(h7:∀c∈tb,c.ok):HI (Uv tb cf) [] (VY cf.aF):=by
 have z:=SB (tb:=tb) (n:=cf.aF) (room:=cf.room) (m:=cf.ij) h1 h2 h3 h6 h7;have d:∀g∈(Uv tb cf).bR,g=⟨List.replicate tb.length iq,[],none⟩:=λg i=>(A5.1 i).2;have r:∀k,(List.replicate tb.length iq).getD k iq=iq:=λk=>by
  rw[zQ,mH];split<;>rfl
 refine⟨z,jF.refl _,λk x=>?_,tz,λe y=>by simp[Uv]at y,λg i s a j=>?_,λg i=>?_,h7,?_,?_⟩
 ·have w:∀(n:Nat) (f:Th->Nat) (g:Th),f g=0->((List.replicate n g).map f).sum=0:=λn f g h=>by
   rw[we,h]
   induction n with
   | zero=>rfl
   | succ n ih=>rw[tg,oD,ih]
  have u:gT ⟨List.replicate tb.length iq,[],none⟩ k x=0:=by
   unfold gT l4;split
   ·simp only[r];rfl
   ·rfl
  have:qW (Uv tb cf) k x=0:=by
   unfold qW;show mA [] k x+((List.replicate cf.threads (⟨List.replicate tb.length iq,[],none⟩:Th)).map λg=>gT g k x).sum=0;rw[w _ _ _ u];rfl
  rw[this,KT];rintro⟨p,j,_⟩;simp at j
 ·rw[d g i]at j;cases j
 ·rw[d g i];refine⟨by simp[Uv],λl B=>?_,λb A=>by simp at A,by simp,by unfold iy;rfl⟩;rw[(A5.1 B).2];exact⟨fQ.nil,by simp[iq]⟩
 ·show 1<=(List.replicate cf.ij (fG cf.aF cf.room tb)).length;simpa using h4
 ·show(List.replicate cf.aF 0).length=cf.aF;simp
def KL (H H':Hw):Prop:=∀e∈H.live,∀w:Nat,e.1<=((8*w:Nat):Int)->((8*w:Nat):Int)<e.1+e.2.2.1->H'.sp.wd w=H.sp.wd w
theorem HI.A3 (h:HI H held s0):WI ⟨H.tb,s0,H.bY,held⟩:=h.wi
theorem HI.mapped (h:HI H held s0){p:Pc}(hp:p∈held){x:Nat}(h1:p.addr<=x)(h2:x<p.addr+p.size):gf H.sp.st (x/256)≠0:=by
 obtain⟨A,a,_⟩:=h.wi.hf p hp;have e1:=h.wi.qc hp a h1 h2;have:=(h.wi.ow _ A a).own (x/256) O;intro hz;exact this ((h.na.z _).1 hz)
theorem HI.kl (h:HI H held s0)(k:KS H.sp H'.sp):KL H H':=λe b w m j=>by
 obtain⟨_,p,a,_,_,i,g,_⟩:=h.lv e b;have d:=h.mapped a (x:=8*w) O O;exact(k.k _ d).2 w O
theorem KL.refl (H:Hw):KL H H:=λ_ _ _ _ _=>rfl
theorem KL.trans {H1 H2 H3:Hw}(a:KL H1 H2)(b:KL H2 H3)(hl:∀e∈H1.live,e∈H2.live):KL H1 H3:=λe i w g d=>(b e (hl e i) w g d).trans (a e i w g d)
structure mW (H H':Hw):Prop where
 hi:∃held s0,HI H' held s0
 live:H'.live=H.live
 bR:H'.bR=H.bR
 kp:QW H' H
 kl:KL H H'
theorem mW.refl (h:HI H held s0):mW H H:=⟨⟨_,_,h⟩,rfl,rfl,QW.refl _,KL.refl _⟩
theorem mW.trans {H1 H2 H3:Hw}(a:mW H1 H2)(b:mW H2 H3):mW H1 H3:=⟨b.hi,b.live.trans a.live,b.bR.trans a.bR,a.kp.trans b.kp,a.kl.trans b.kl λe d=>by rw[a.live];exact d⟩
theorem HI.n (h:HI H held s0)(hk:H.bY[k]?=some A):A.n=H.cf.aF:=by
 have:=(h.wi.ow k A hk).l;have a:=h.na.l;have b:=h.sl;simp only at this;omega
theorem WI.wd {W:Wd}(h:WI W)(f:Nat->Int):WI {W with sp:={W.sp with wd:=f}}:=
 ⟨h.ga,λk A hk=>⟨(h.ow k A hk).l,(h.ow k A hk).own,(h.ow k A hk).cl,(h.ow k A hk).le⟩,h.tb,h.low,h.own,h.one,h.hk,h.hf,h.ht,h.hr⟩
theorem El {sp:Sp}{x:Int}(h:eO sp x=0):0<=x/\x%8=0/\gf sp.st (x.toNat/256)≠0:=by
 unfold eO at h;split at h
 ·cases h
 ·split at h
  ·cases h
  ·exact⟨O,O,by assumption⟩
theorem BO (sp:Sp)(x v:Int):(ZD sp x v).st.length=sp.st.length/\(∀p,gf (ZD sp x v).st p=0↔gf sp.st p=0)/\∀w,(ZD sp x v).wd w=if eO sp x=0/\w=x.toNat/8 then v else sp.wd w:=by
 unfold ZD;split
 ·rename_i h0;have a:=El h0;refine⟨by simp[nU],λp=>?_,λw=>?_⟩
  ·show gf (sp.st.set (x.toNat/8/32) 2) p=0↔_;have b:x.toNat/8/32=x.toNat/256:=by omega
   rw[b];unfold gf at a ⊢;rw[zQ]at a ⊢;rw[zQ,nJ];split
   ·rename_i he;split
    ·rw[←he];simp only[qn];exact⟨λh=>O,λh=>(a.2.2 h).elim⟩
    ·rename_i hl;rw[zX O]at a;exact(a.2.2 rfl).elim
   ·exact Iff.rfl
  ·show(if w=x.toNat/8 then v else sp.wd w)=_
   by_cases hw:w=x.toNat/8
   ·rw[zC hw,zC ⟨h0,hw⟩]
   ·rw[zB hw,zB λh=>hw h.2]
 ·exact⟨rfl,λ_=>Iff.rfl,λw=>by rw[zB λh=>by have:=h.1;contradiction]⟩
theorem HI.write (h:HI H held s0)(x v:Int):HI {H with sp:=ZD H.sp x v} held {s0 with wd:=(ZD H.sp x v).wd}:=by
 obtain⟨a,b,_⟩:=BO H.sp x v;exact⟨h.wi.wd _,⟨a.trans h.na.l,λp=>(b p).trans (h.na.z p),rfl⟩,h.cn,h.lk,h.lv,h.gv,h.th,h.ok,h.a1,a.trans h.sl⟩
end Go.Ar
namespace Go.Ar
open Go Go.Vc Go.Proofs
variable {U u w w':Hp}{F B P Q:Rg}{L:dE}{H H':Hw}{t n:Nat}{g:Th}
end Go.Ar
namespace Go.Proofs
open Go.Vc
set_option maxRecDepth 100000
def Xf.h:Hn:=.q .o2 (.q (.q (.cU (.seq [.op,.op,.op,.cW false 2 [.op,.op]])) .aJ) (.q .o1 (.q .o1 (.q (.k (.loop [(4,.one .s),(5,.I)] (.q (.q .o2 (.c .l .l)) (.k (.q .o7 .o6))))) (.q .o6 (.q .o1 (.q (.q .o1 (.k (.loop [(6,.one .s),(7,.I)] (.q (.q .o4 (.c .l .l)) (.q (.k (.q (.cU (.gI true [] [(70,.one .b)] (.tk [0,1,2,3,4,5] (.split 43 (.tk [6,7,8,9,10,11,12,13,14,15,16,17,18,19,20,21,22,23,24,25,26,27,28,29,30,31,32] (.done)) (.tk [6,7,8,9,10,11,12,13,14,15,16,17,18,19] (.split 57 (.tk [20,21,22,23,24,25,26,27,28,29,30,31,32] (.done)) (.tk [20,21,22,23,25,26,27,28,29] (.all [(24,.all [(30,.take 31 (.take 32 (.done)))])])))))))) (.c .o8 .l))) .o3))))) (.q .o3 .l))))))))
def Xf.v (a:Int)(b:Hp)(c:Sl->Int->Hp->Prop):Prop:=bX (λd e=>If d (c ⟨none,0,0⟩ 1 e) (Yb [.s,bO] (λf=>f ⟨none,0,0⟩ 8 e) λg (h:Sl) (i:Int) j=>If (i<512) (Xy.c i a j λk l m n=>aV #[.I k,.I l,.I m] 149 n λo p=>App h 3 24 149 [.I 0,.I 0,.I 0] ⟨some o,1,1⟩ p λq r=>X9.c i a r λs t=>bM (i+s) λu=>g q u t) (Xy.c 512 a j λv w x y=>aV #[.I v,.I w,.I x] 149 y λz aa=>App h 3 24 149 [.I 0,.I 0,.I 0] ⟨some z,1,1⟩ aa λab ac=>Yb [.s,bO] (λad=>ad ⟨none,0,0⟩ 0 ac) λae (af:Sl) (ag:Int) ah=>If (ag<((ab.len:Nat):Int)) (Jn [.b] (λ(ai:Bool) aj=>If ai (Ix ab.a ab.len ag 3 λak=>aQ ak 0 aj λal=>aQ ak 1 aj λam=>aQ ak 2 aj λan=>aV #[.I al,.I am,.I an] 149 aj λao ap=>App af 3 24 149 [.I 0,.I 0,.I 0] ⟨some ao,1,1⟩ ap λaq ar=>bM (ag+1) λau=>ae aq au ar) (bM (ag+1) λav=>ae af av aj)) λaw=>dV ah λax=>bM (((ab.len:Nat):Int)-1) λay=>If (ag==ay) (aw true ah) (Ix ab.a ab.len ag 3 λaz=>aS ax az 1 λa0=>bM (ag+1) λa1=>Ix ab.a ab.len a1 3 λa2=>aS ax a2 1 λa3=>If (a0 != a3) (aw true ah) (Ix ab.a ab.len ag 3 λa4=>aS ax a4 0 λa5=>aS ax a4 1 λa6=>aS ax a4 2 λa7=>bM (ag+1) λa8=>Ix ab.a ab.len a8 3 λa9=>aS ax a9 0 λba=>aS ax a9 1 λbb=>aS ax a9 2 λbc=>Xc.c a5 a6 a7 ah λbd be=>
 And (ax be) <| Xc.c ba bb bc be λbf bg=>And (ax bg) <| aw (bd != bf) bg))) (c af 0 ah)))) λbh=>If (a<2) (bh true b) (bh (decide (a>16)) b)
theorem Xf.o {a b c}(d:Xf.v a b c):Xf.c a b c:=Wa Tryz.func96 (x:=Xf.h) (R0 d)
def Xy.h:Hn:=.q .o1 (.q .o8 (.q (.q .o1 (.k (.loop [(6,.I)] (.q (.q .o2 (.c .l .l)) (.q (.k (.q (.cU (.seq [.op,.op,.op,.op,.op,.cW true 9 (RI.ops 9)])) (.c .o3 .l))) .o3))))) .aL))
def Xy.v (a b:Int)(c:Hp)(d:Int->Int->Int->Hp->Prop):Prop:=aV #[.I 0,.I 0,.I 0] 149 c λe f=>Nz a<|bM ((512:Int).tdiv a) λg=>aV #[.I 0,.I 0,.I 0] 149 f λh i=>aR h 0 (.I a) i λj=>aR h 1 (.I 4) j λk=>aR h 2 (.I (if 32<(if 2>g then 2 else g)then 32 else(if 2>g then 2 else g))) k λl=>Yb [bO] (λm=>m 4 l) λn (o:Int) p=>If (o≥1) (bM (o*256) λq=>bX (λr s=>If r (aR h 1 (.I o) s λt=>bM (o-1) λu=>n u t) (bM (o-1) λv=>n v s)) λw=>If (q≥a) (bM (o*256) λx=>Nz a <| bM (b*(x.tmod a)) λy=>bM (o*256) λz=>w (decide (y<=z)) p) (w false p)) (aQ h 0 p λaa=>aQ h 1 p λab=>aQ h 2 p λac=>aR e 0 (.I aa) p λad=>aR e 1 (.I ab) ad λae=>aR e 2 (.I ac) ae λaf=>aQ e 0 af λag=>aQ e 1 af λah=>aQ e 2 af λai=>d ag ah ai af)
theorem Xy.o {a b c d}(e:Xy.v a b c d):Xy.c a b c d:=Wa Tryz.func148 (x:=Xy.h) (R0 e)
def X9.h:Hn:=.q .o1 (.q .o1 (.q (.k (.loop [(5,.I)] (.q (.q .o6 (.c .l .l)) (.k .o3)))) .aL))
def X9.v (a b:Int)(c:Hp)(d:aN):Prop:=Yb [bO] (λe=>e 8 c) λf (g:Int) h=>bM (2*g) λi=>Nz b<|bM (a.tdiv b) λj=>If (i<=j) (bM (2*g) λk=>f k h) (d g h)
theorem X9.o {a b c d}(e:X9.v a b c d):X9.c a b c d:=Wa Tryz.func149 (x:=X9.h) (R0 e)
def Xc.h:Hn:=.q .o2 (.q .o1 (.q (.k (.loop [(3,.I)] (.q (.q .o9 (.c .l .l)) (.k .o3)))) .aL))
def Xc.v (a b c:Int)(d:Hp)(e:aN):Prop:=aV #[.I a,.I b,.I c] 149 d λf g=>Yb [bO] (λh=>h 0 g) λi (j:Int) k=>bM (j+1) λl=>aQ f 0 k λm=>bM (l*m) λn=>aQ f 1 k λo=>bM (o*256) λp=>If (n<=p) (bM (j+1) λq=>i q k) (e j k)
theorem Xc.o {a b c d e}(f:Xc.v a b c d e):Xc.c a b c d e:=Wa Tryz.func150 (x:=Xc.h) (R0 f)
end Go.Proofs
namespace Go.Ar
open Go Go.Vc Go.Proofs
variable {U w:Hp}
abbrev T3:=Int×Int×Int
def v3 (x:T3):List Value:=[.int .i64 x.1,.int .i64 x.2.1,.int .i64 x.2.2]
def lM (l:List T3):List Value:=l.flatMap v3
theorem Ee (l:List T3):(lM l).length=l.length*3:=by
 induction l with
 | nil=>rfl
 | cons x l ih=>simp only[lM,pE,zK,v3,zS,k9]at *;omega
theorem TW (l:List T3)(x:T3):lM (l++[x])=lM l++v3 x:=by simp[lM]
theorem AF:∀{l:List T3} {i:Nat} {x:T3},l[i]?=some x->∀{d:Nat},d<3->(lM l)[i*3+d]?=(v3 x)[d]?
 | [],_,_,h,_,_=>by simp at h
 | y::l,0,x,h,d,hd=>by
  simp at h;subst h;have e:lM (y::l)=v3 y++lM l:=rfl;rw[e,zd (by simp[v3];omega)];congr 1;omega
 | y::l,i+1,x,h,d,hd=>by
  have e:lM (y::l)=v3 y++lM l:=rfl;have a:(v3 y).length=3:=rfl;rw[e,zp O,a,show(i+1)*3+d-3=i*3+d by omega];exact AF (by simpa using h) hd
theorem Lw {Q:Rg}{s:Sl}{l:List T3}(h:Go.Vc.Own Q U s 3 (lM l)):im U s l:=by
 have u:=h.1;rw[Ee]at u;refine⟨O,λi x y z d=>?_⟩;obtain⟨b,g,m⟩:=h.cell (j:=i*3+0) (v:=.int .i64 x) ((AF d O).trans rfl);obtain⟨p,a,w⟩:=h.cell (j:=i*3+1) (v:=.int .i64 y) ((AF d O).trans rfl);rw[g]at a;cases a;obtain⟨p,a,r⟩:=h.cell (j:=i*3+2) (v:=.int .i64 z) ((AF d O).trans rfl);rw[g]at a;cases a;refine⟨b,0,g,KO m,?_,?_,?_⟩
 ·rw[show 0+i*3=i*3+0 by omega];exact m
 ·rw[show 0+i*3+1=i*3+1 by omega];exact w
 ·rw[show 0+i*3+2=i*3+2 by omega];exact r
def tL (s w:Int)(n:Nat):Int:=([4,3,2,1].take n).foldl (λ(r p:Int)=>if s<=p*256/\w*((p*256)%s)<=p*256 then p else r) 4
def yw (s:Int):Int:=min 32 (max 2 (512/s))
def lF (s w:Int):T3:=(s,tL s w 4,yw s)
def xr:Nat->Int->Int->Int
 | 0,d,_=>d
 | n+1,d,q=>if 2*d<=q then xr n (2*d) q else d
def wH (s w:Int):Int:=xr 8 8 (s/w)
def m5 (x:T3):Int:=x.2.1*256/x.1
theorem PC (s w:Int)(n:Nat):1<=tL s w n/\tL s w n<=4:=by
 have key:∀(l:List Int) (r:Int),(∀p∈l,1<=p/\p<=4)->1<=r/\r<=4->1<=l.foldl (λ(r p:Int)=>if s<=p*256/\w*((p*256)%s)<=p*256 then p else r) r/\l.foldl (λ(r p:Int)=>if s<=p*256/\w*((p*256)%s)<=p*256 then p else r) r<=4:=by
  intro l
  induction l with
  | nil=>intro r _ h;exact h
  | cons p l ih=>
   intro r hl hr;rw[r7];refine ih _ (λq a=>hl q (mg _ a)) ?_;split
   ·exact hl p mD
   ·exact hr
 refine key _ _ (λp b=>?_) O;have:=wo b;simp at this;omega
theorem Ii (s w:Int)(h1:8<=s)(h2:s<=512)(hw1:2<=w)(hw2:w<=16){R:Int->Int->Int->Hp->Prop}(hR:∀σ',aG U σ'->R (lF s w).1 (lF s w).2.1 (lF s w).2.2 σ'):Xy.c s w U R:=by
 refine Xy.o ?_;unfold Xy.v;have Q:1<=512/s/\512/s<=64:=⟨by rw[Int.le_ediv_iff_mul_le O];omega,Int.ediv_le_of_le_mul O O⟩;refine nw (cs:=[.int .i64 0,.int .i64 0,.int .i64 0]) λv hz e hb=>nz O (ar (by rw[YO O];omega) (by rw[YO O];omega) ?_);rw[YO O];refine nw (cs:=[.int .i64 0,.int .i64 0,.int .i64 0]) λv1 N e1 E=>E.s1 aA λv2 o2 A=>A.s1 aA λK o3 p=>p.s1 aA λv4 o4 b4=>?_;have d:U.size≠v.size:=by omega
 have D:=WE o4 (WE o3 (WE o2 (e1.bV hb id) d) d) d;have Y:aG U v4:=((((e.trans e1).only o2 (.inr O)).only o3 (.inr O)).only o4 (.inr O));have m:(if 32<(if 2>512/s then 2 else 512/s)then 32 else(if 2>512/s then 2 else 512/s))=yw s:=by unfold yw;omega
 rw[m]at b4;refine Qp (a:=bO) (λ(z:Int) u=>∃n:Nat,n<=4/\z=4-(n:Int)/\aG U u/\bZ u U.size [.int .i64 0,.int .i64 0,.int .i64 0]/\bZ u v.size [.int .i64 s,.int .i64 (tL s w n),.int .i64 (yw s)]) (λz _=>z.toNat) ⟨0,O,rfl,Y,D,b4⟩ ?_;rintro(z:Int) u ⟨n,hn,rfl,eu,hu,bu⟩;refine cP (λX=>?_) λZ=>?_
 ·have V:n<4:=by omega
  have b:tL s w (n+1)=if s<=(4-(n:Int))*256/\w*(((4-(n:Int))*256)%s)<=(4-(n:Int))*256 then 4-(n:Int)else tL s w n:=by
   have M:([4,3,2,1]:List Int)[n]?=some (4-(n:Int)):=by
    rcases(show n=0\/n=1\/n=2\/n=3 by omega)with rfl|rfl|rfl|rfl<;>rfl
   unfold tL;rw[kz,M,vE];rfl
  refine ar O O ?_;refine Kd (λr G=>G=u/\r=decide (s<=(4-(n:Int))*256/\w*(((4-(n:Int))*256)%s)<=(4-(n:Int))*256)) (λr G ⟨B,x⟩=>?_) λJ F=>?_
  ·subst B;by_cases hc:s<=(4-(n:Int))*256/\w*(((4-(n:Int))*256)%s)<=(4-(n:Int))*256
   ·rw[zI hc]at x;rw[zC hc]at b;refine cF x (bu.s1 aA λW o1 C=>ar O O ⟨⟨n+1,O,O,eu.only o1 (.inr O),WE o1 hu d,by rw[b];exact C⟩,O⟩)
   ·rw[zJ hc]at x;rw[zB hc]at b;exact cD x (ar O O ⟨⟨n+1,O,O,eu,hu,by rw[b];exact bu⟩,O⟩)
  ·have g:=Int.emod_nonneg ((4-(n:Int))*256) (show s≠0 by omega);have P:=Int.emod_lt_of_pos ((4-(n:Int))*256) (show 0<s by omega);have S:w*(((4-(n:Int))*256)%s)<=16*512:=Int.mul_le_mul hw2 O g O;have H:0<=w*(((4-(n:Int))*256)%s):=Int.mul_nonneg O g;refine cP (λh1=>ar O O (nz O ?_)) λh1=>F _ _ ⟨rfl,(zJ λj=>h1 j.1).symm⟩;rw[Kg O];refine ar O O (ar O O (F _ _ ⟨rfl,?_⟩));rw[decide_eq_decide];exact⟨λj=>⟨h1,j⟩,λj=>j.2⟩
 ·have y:n=4:=by omega
  subst y;refine bu.rI rfl (bu.rI rfl (bu.rI rfl (hu.s1 aA λW o1 C=>C.s1 aA λu2 o2 A=>A.s1 aA λL o3 p=>p.rI rfl (p.rI rfl (p.rI rfl (hR L ?_))))));exact((eu.only o1 (.inr O)).only o2 (.inr O)).only o3 (.inr O)
theorem TM (s w:Int)(h1:8<=s)(h2:s<=512)(hw1:2<=w){R:aN}(hR:8<=wH s w->wH s w<=256->R (wH s w) U):X9.c s w U R:=by
 refine X9.o ?_;unfold X9.v;have j:0<=s/w/\s/w<=256:=⟨Int.ediv_nonneg O O,by
  have:s/w<=s/2:=by
   apply Int.le_ediv_of_mul_le O;have:=Int.ediv_mul_le s (show w≠0 by omega);have m:s/w*2<=s/w*w:=Int.mul_le_mul_of_nonneg_left hw1 (Int.ediv_nonneg O O);omega
  omega⟩
 refine Qp (a:=bO) (λ(d:Int) u=>u=U/\∃n:Nat,xr n d (s/w)=wH s w/\8<=d/\d<=256/\512<=d*2^n) (λd _=>1000-d.toNat) ⟨rfl,8,rfl,O,O,by decide⟩ ?_;rintro(d:Int) u ⟨rfl,n,hst,hd1,hd2,hdn⟩;refine ar O O (nz O (ar (by rw[YO O];omega) (by rw[YO O];omega) ?_));rw[YO O];cases n with
 | zero=>simp at hdn;omega
 | succ n=>
  refine cP (λg=>ar O O ⟨⟨rfl,n,?_,O,O,?_⟩,O⟩) λb=>?_
  ·rw[xr,zC g]at hst;exact hst
  ·rw[Int.pow_succ]at hdn;have:2*d*2^n=d*(2^n*2):=by rw[Int.mul_comm 2 d,Int.mul_assoc,Int.mul_comm 2 (2^n)]
   omega
  ·rw[xr,zB b]at hst;rw[←hst]at hR;exact hR hd1 hd2
theorem FI (x:T3)(h1:8<=x.1)(h2:x.1<=512)(h3:1<=x.2.1)(h4:x.2.1<=4){R:aN}(hR:∀σ',aG U σ'->R (m5 x) σ'):Xc.c x.1 x.2.1 x.2.2 U R:=by
 refine Xc.o ?_;unfold Xc.v;refine nw (cs:=[.int .i64 x.1,.int .i64 x.2.1,.int .i64 x.2.2]) λv s e m=>?_;refine Qp (a:=bO) (λ(n:Int) u=>aG U u/\bZ u U.size [.int .i64 x.1,.int .i64 x.2.1,.int .i64 x.2.2]/\0<=n/\n<=128/\n*x.1<=x.2.1*256) (λn _=>1000-n.toNat) ⟨e,m,O,O,O⟩ ?_;rintro(n:Int) u ⟨eu,bu,hn0,hn1,hn⟩;have w:(n+1)*x.1<=129*512:=Int.mul_le_mul O h2 O O;have j:0<=(n+1)*x.1:=Int.mul_nonneg O O;refine ar O O (bu.rI rfl (ar O O (bu.rI rfl (ar O O ?_))));refine cP (λb=>ar O O ⟨⟨eu,bu,O,?_,b⟩,O⟩) λg=>?_
 ·have:(n+1)*8<=(n+1)*x.1:=Int.mul_le_mul_of_nonneg_left h1 O;omega
 ·have:m5 x=n:=by
   unfold m5;have r:n<=x.2.1*256/x.1:=(Int.le_ediv_iff_mul_le O).2 hn;have p:x.2.1*256/x.1<n+1:=(Int.ediv_lt_iff_lt_mul O).2 O;omega
  have d:=hR u eu;rw[this]at d;exact d
end Go.Ar