/- Texts joined. -/
import Derived.Test.YteihenagckcobaaGreatDoorE5
set_option linter.unusedVariables false
set_option linter.unusedSimpArgs false
namespace Go.Ar
variable {c:bZ}{ss:List cF}
structure dF (c:bZ) (ss:List cF):Prop where
 ok:c.ok
 tk:∀s∈ss,s.tk.length=c.n
 sP:ss.Pairwise λa b=>a.st+c.aF<=b.st
def Tk (c:bZ)(ss:List cF)(x:Int):Prop:=dY c ss x=some true
def uJ (c:bZ)(ss:List cF)(p:Nat):Prop:=∃s∈ss,s.st<=p/\p<s.st+c.aF
theorem dF.pos (h:dF c ss):0<c.size:=by have:=h.ok;unfold bZ.ok at this;omega
theorem dF.pg (h:dF c ss):1<=c.aF:=by have:=h.ok;unfold bZ.ok at this;omega
theorem dF.pM (h:dF c ss):ss.Pairwise λa b=>a.st<b.st:=h.sP.imp λ{a b} d=>by have:=h.pg;omega
theorem dF.sZ (h:dF c ss){i j:Nat}{s t:cF}(hi:ss[i]?=some s)(hj:ss[j]?=some t)(hij:i<j):s.st+c.aF<=t.st:=by
 obtain⟨a,rfl⟩:=cW.1 hi;obtain⟨b,rfl⟩:=cW.1 hj;exact mc.1 h.sP i j a b hij
theorem dF.vo (h:dF c ss){i j:Nat}{s t:cF}{p:Nat}(hi:ss[i]?=some s)(hj:ss[j]?=some t)(h1:s.st<=p)(h2:p<s.st+c.aF)(h3:t.st<=p)(h4:p<t.st+c.aF):i=j:=by
 rcases pF i j with hl|hl|hl
 ·have:=h.sZ hi hj hl;omega
 ·exact hl
 ·have:=h.sZ hj hi hl;omega
theorem FB (hp:0<c.size){s:cF}{i:Nat}(hi:i<c.n):s.st*256<=at_ c s i/\at_ c s i+c.size<=(s.st+c.aF)*256:=by
 have b:=bZ.uU c;have a:(i+1)*c.size<=c.n*c.size:=lW _ hi;unfold at_;rw[zm]at a;omega
theorem Hu (hp:0<c.size){s:cF}{i x:Nat}(hi:i<c.n)(h1:at_ c s i<=x)(h2:x<at_ c s i+c.size):s.st<=x/256/\x/256<s.st+c.aF:=by
 have:=FB hp (s:=s) hi;omega
theorem V8 (h:dF c ss){k l:Nat}{s t:cF}{i j x:Nat}(hk:ss[k]?=some s)(hl:ss[l]?=some t)(hi:i<c.n)(hj:j<c.n)(h1:at_ c s i<=x)(h2:x<at_ c s i+c.size)(h3:at_ c t j<=x)(h4:x<at_ c t j+c.size):k=l/\s=t/\i=j:=by
 have b:=Hu h.pos hi h1 h2;have a:=Hu h.pos hj h3 h4;have e:=h.vo hk hl b.1 b.2 a.1 a.2;subst e;rw[hk]at hl;cases hl;refine⟨rfl,rfl,?_⟩;unfold at_ at *;have d:=h.pos;rcases pF i j with hl|hl|hl
 ·have:(i+1)*c.size<=j*c.size:=lW _ hl;rw[zm]at this;omega
 ·exact hl
 ·have:(j+1)*c.size<=i*c.size:=lW _ hl;rw[zm]at this;omega
theorem Ay (h:dF c ss){s:cF}(hs:s∈ss){x:Int}{i:Nat}(hi:idx c s x=some i):i<c.n/\((s.st*256:Nat):Int)<=x/\x<(((s.st+c.aF)*256:Nat):Int)/\((at_ c s i:Nat):Int)<=x/\x<((at_ c s i+c.size:Nat):Int):=by
 obtain⟨d,b,a⟩:=(VS h.pos).1 hi;rw[h.tk s hs]at a;have:=FB h.pos (s:=s) a;have e:at_ c s (i+1)=at_ c s i+c.size:=by unfold at_;rw[zm];omega
 rw[e]at b;omega
theorem Dr (h:dF c ss){k:Nat}{s:cF}{x:Int}{i:Nat}(hs:ss[k]?=some s)(hi:idx c s x=some i):kD c ss x=some k:=by
 obtain⟨m,g⟩:=cW.1 hs;refine nm.2 ⟨m,by rw[g,hi];rfl,λj r p=>?_⟩;have d:j<ss.length:=by omega
 obtain⟨u,e⟩:=pJ.1 p;have a:=Ay h (zG hs) hi;have b:=Ay h (j7 d) e;have:=h.sZ (cV d) hs r;omega
theorem Em (h:dF c ss){x:Int}{b:Bool}:dY c ss x=some b↔∃(k:Nat) (s:cF) (i:Nat),ss[k]?=some s/\i<c.n/\x=((at_ c s i:Nat):Int)/\s.is i=b:=by
 constructor
 ·intro hx;obtain⟨k,s,i,_,a,g,e⟩:=Gn hx;obtain⟨m,j⟩:=(Uq h.pos).1 g;rw[h.tk s (zG a)]at j;exact⟨k,s,i,a,j,m,e⟩
 ·rintro⟨k,s,i,a,hi,rfl,e⟩;have p:=h.tk s (zG a);have g:obj c s ((at_ c s i:Nat):Int)=some i:=(Uq h.pos).2 ⟨rfl,O⟩;have d:idx c s ((at_ c s i:Nat):Int)=some i:=(VS h.pos).2 ⟨wQ _,by have:=h.pos;unfold at_;rw[zm];omega,O⟩;rw[Vx (Dr h a d) a,g,←e];rfl
theorem Vu (h:dF c ss){x:Int}:Tk c ss x↔∃(k:Nat) (s:cF) (i:Nat),ss[k]?=some s/\i<c.n/\x=((at_ c s i:Nat):Int)/\s.is i=true:=Em h
theorem CB (h:dF c ss){x:Int}{a:Nat}:qJ c ss x=some a↔∃(k:Nat) (s:cF) (i:Nat),ss[k]?=some s/\i<c.n/\a=at_ c s i/\((at_ c s i:Nat):Int)<=x/\x<((at_ c s i+c.size:Nat):Int):=by
 constructor
 ·intro hf;cases ho:kD c ss x with
  | none=>rw[Fu ho]at hf;cases hf
  | some k=>
   have j:=(nm.1 ho).1;have b:ss[k]?=some ss[k]:=cV j;rw[HJ ho b]at hf;obtain⟨i,g,rfl⟩:=oy.1 hf;have:=Ay h (zG b) g;exact⟨k,_,i,b,this.1,rfl,this.2.2.2.1,this.2.2.2.2⟩
 ·rintro⟨k,s,i,b,g,rfl,h1,h2⟩;have m:=h.tk s (zG b);have e:at_ c s (i+1)=at_ c s i+c.size:=by unfold at_;rw[zm];omega
  have d:idx c s x=some i:=(VS h.pos).2 ⟨h1,by rw[e];exact h2,O⟩;rw[HJ (Dr h b d) b,d];rfl
theorem dF.put (h:dF c ss){k i:Nat}{s:cF}(hs:ss[k]?=some s)(v:Bool):dF c (ss.set k (s.put i v)):=by
 have r:=(cW.1 hs).1;refine⟨h.ok,λt p=>?_,?_⟩
 ·rcases xu p with p|rfl
  ·exact h.tk t p
  ·rw[show(s.put i v).tk.length=s.tk.length by simp[cF.put]];exact h.tk s (zG hs)
 ·rw[mc];intro a b ha hb hab;have d:a<ss.length:=by simpa using ha
  have m:b<ss.length:=by simpa using hb
  have g:∀j (hj:j<(ss.set k (s.put i v)).length) (hj':j<ss.length),(ss.set k (s.put i v))[j].st=ss[j].st:=by
   intro j hj hj';rw[List.getElem_set];split
   ·rename_i e;subst e;have:ss[k]=s:=(cW.1 hs).2;rw[this];rfl
   ·rfl
  rw[g a ha d,g b hb m];exact mc.1 h.sP a b d m hab
theorem CU {k i:Nat}{s:cF}(hs:ss[k]?=some s)(v:Bool):(ss.set k (s.put i v)).map (·.st)=ss.map (·.st):=by
 apply zo;intro j;simp only[zd];by_cases hjk:j=k
 ·subst hjk;rw[zL (cW.1 hs).1,hs];rfl
 ·rw[zk (Ne.symm hjk)]
theorem Bl {s:cF}{i j:Nat}{v:Bool}(hi:i<s.tk.length):(s.put i v).is j=if j=i then v else s.is j:=by
 unfold cF.is cF.put;simp only[zP];by_cases hj:j=i
 ·subst hj;rw[zL hi,zC rfl];rfl
 ·rw[zk (Ne.symm hj),zB hj]
theorem Ck (h:dF c ss){k i:Nat}{s:cF}(hs:ss[k]?=some s)(hi:i<c.n)(v:Bool){y:Int}:Tk c (ss.set k (s.put i v)) y↔(y=((at_ c s i:Nat):Int)/\v=true)\/(y≠((at_ c s i:Nat):Int)/\Tk c ss y):=by
 have b:=(cW.1 hs).1;have g:=h.tk s (zG hs);have m:=h.pos;rw[Vu (h.put hs v),Vu h];constructor
 ·rintro⟨l,t,j,ht,hj,rfl,hb⟩;by_cases hlk:l=k
  ·subst hlk;rw[zL b]at ht;cases ht;rw[Bl O]at hb;by_cases a:j=i
   ·subst a;rw[zC rfl]at hb;exact .inl ⟨rfl,hb⟩
   ·rw[zB a]at hb;refine .inr ⟨λe=>a ?_,l,s,j,hs,hj,rfl,hb⟩;have d:at_ c s j=at_ c s i:=by have:=Int.ofNat.inj e;exact this
    exact(V8 h hs hs hj hi (zD _) O O O).2.2
  ·rw[zk (Ne.symm hlk)]at ht;refine .inr ⟨λe=>hlk ?_,l,t,j,ht,hj,rfl,hb⟩;have d:at_ c t j=at_ c s i:=Int.ofNat.inj e;exact(V8 h ht hs hj hi (zD _) O O O).1
 ·rintro(⟨rfl,rfl⟩|⟨hne,l,t,j,ht,hj,rfl,hb⟩)
  ·exact⟨k,s.put i true,i,zL b,hi,rfl,by rw[Bl O,zC rfl]⟩
  ·by_cases hlk:l=k
   ·subst hlk;rw[hs]at ht;cases ht;have a:j≠i:=λe=>hne (by rw[e]);exact⟨l,s.put i v,j,zL b,hj,rfl,by rw[Bl O,zB a];exact hb⟩
   ·exact⟨l,t,j,(zk (Ne.symm hlk)).trans ht,hj,rfl,hb⟩
theorem Du {p:Nat}:uJ c ss p↔∃x∈ss.map (·.st),x<=p/\p<x+c.aF:=by
 constructor
 ·rintro⟨s,a,h⟩;exact⟨_,zE.2 ⟨s,a,rfl⟩,h⟩
 ·rintro⟨x,hx,h⟩;obtain⟨s,a,rfl⟩:=zE.1 hx;exact⟨s,a,h⟩
theorem Nf {ss':List cF}(e:ss'.map (·.st)=ss.map (·.st)){p:Nat}:uJ c ss' p↔uJ c ss p:=by rw[Du,Du,e]
theorem IC (h:dF c ss){x:Nat}{ss':List cF}(ho:iS c ss=some (x,ss')):dF c ss'/\ss'.map (·.st)=ss.map (·.st)/\¬Tk c ss (x:Int)/\∀y,Tk c ss' y↔y=(x:Int)\/Tk c ss y:=by
 unfold iS at ho;split at ho
 ·rename_i k hk;obtain⟨_,s,g,u⟩:=QH hk;rw[g]at ho;simp only at ho;split at ho
  ·rename_i i hi;cases ho;obtain⟨r,w,p,m⟩:=Gp u;rw[hi]at w;cases w;have j:i<c.n:=by rw[←h.tk s (zG g)];exact p
   have a:¬Tk c ss ((at_ c s i:Nat):Int):=λd=>by
    have z:=(Em h (x:=((at_ c s i:Nat):Int)) (b:=false)).2 ⟨k,s,i,g,j,rfl,m⟩;unfold Tk at d;rw[z]at d;cases d
   refine⟨h.put g true,CU g true,a,λy=>?_⟩;rw[Ck h g j];constructor
   ·rintro(⟨e,_⟩|⟨_,d⟩)
    ·exact .inl e
    ·exact .inr d
   ·rintro(e|d)
    ·exact .inl ⟨e,rfl⟩
    ·exact .inr ⟨λe=>a (e▸d),d⟩
  ·cases ho
 ·cases ho
theorem Hs:∀(m:Nat) {ss:List cF},dF c ss->dF c (QT c m ss).2/\(QT c m ss).2.map (·.st)=ss.map (·.st)/\(QT c m ss).1.length<=m/\(QT c m ss).1.Nodup/\(∀x∈(QT c m ss).1,¬Tk c ss (x:Int))/\∀y,Tk c (QT c m ss).2 y↔(∃x∈(QT c m ss).1,y=((x:Nat):Int))\/Tk c ss y
 | 0,ss,h=>⟨h,rfl,zD _,sL,by simp[QT],by simp[QT]⟩
 | m+1,ss,h=>by
  cases ho:iS c ss with
  | none=>
   have e:QT c (m+1) ss=([],ss):=by simp[QT,ho]
   rw[e];exact⟨h,rfl,by simp,sL,by simp,by simp⟩
  | some r=>
   obtain⟨x,A⟩:=r;rw[Ht ho];obtain⟨w,g,z,a⟩:=IC h ho;obtain⟨d,j,B,p,b,i⟩:=Hs m w;refine⟨d,j.trans g,by simp;omega,zr.2 ⟨λs=>b x s ((a _).2 (.inl rfl)),p⟩,?_,λy=>?_⟩
   ·intro y hy;rcases zW.1 hy with rfl|hy
    ·exact z
    ·exact λu=>b y hy ((a _).2 (.inr u))
   ·rw[i,a];simp only[zW,exists_eq_or_imp];constructor
    ·rintro(h|h|h)
     ·exact .inl (.inr h)
     ·exact .inl (.inl h)
     ·exact .inr h
    ·rintro((h|h)|h)
     ·exact .inr (.inl h)
     ·exact .inl h
     ·exact .inr (.inr h)
theorem Eh:∀(xs:List Int) {ss:List cF},dF c ss->kc c ss xs->dF c (xs.foldl (fC c) ss)/\(xs.foldl (fC c) ss).map (·.st)=ss.map (·.st)/\∀y,Tk c (xs.foldl (fC c) ss) y↔Tk c ss y/\y∉xs
 | [],ss,h,_=>⟨h,rfl,by simp⟩
 | x::xs,ss,h,hA=>by
  have hx:=hA.1 x aA;obtain⟨k,s,i,u,b,j,_⟩:=Gn hx;obtain⟨d,a⟩:=(Uq h.pos).1 j;rw[h.tk s (zG b)]at a;have e:=xe u b j;have w:=h.put b false (i:=i);have g:=hA.next h.pos;obtain⟨m,r,p⟩:=Eh xs (ss:=fC c ss x) (by rw[e];exact w) g;rw[qk];refine⟨m,r.trans (by rw[e];exact CU b false),λy=>?_⟩;rw[p,e,Ck h b a,←d];simp only[zc,and_false,false_or,zW,not_or];constructor
  ·rintro⟨⟨d,a⟩,h3⟩;exact⟨a,d,h3⟩
  ·rintro⟨a,d,h3⟩;exact⟨⟨d,a⟩,h3⟩
theorem Df {s:cF}(h0:s.many=0)(i:Nat):s.is i=false:=by
 unfold cF.many at h0;rw[xz]at h0;unfold cF.is;rw[zP];cases hi:s.tk[i]? with
 | none=>rfl
 | some b=>
  cases b
  ·rfl
  ·exact absurd (zG hi) h0
theorem dF.cG (h:dF c ss):dF c (Go.Ar.cG ss):=⟨h.ok,λs a=>h.tk s (zI.1 a).1,h.sP.filter _⟩
theorem Cw (h:dF c ss){y:Int}:Tk c (cG ss) y↔Tk c ss y:=by
 rw[Vu h.cG,Vu h];constructor
 ·rintro⟨k,s,i,hs,hi,rfl,hb⟩;obtain⟨l,a⟩:=zQ (zI.1 (zG hs)).1;exact⟨l,s,i,a,hi,rfl,hb⟩
 ·rintro⟨k,s,i,hs,hi,rfl,hb⟩;have:s∈cG ss:=zI.2 ⟨zG hs,by
   have:s.many≠0:=λb=>by rw[Df b i]at hb;cases hb
   simpa using this⟩
  obtain⟨l,a⟩:=zQ this;exact⟨l,s,i,a,hi,rfl,hb⟩
theorem AW {x:Nat}:x∈Qd ss↔∃s∈ss,s.many=0/\s.st=x:=by
 unfold Qd;simp only[zE,zI,zT,and_assoc]
theorem EI (h:dF c ss){p:Nat}:uJ c (cG ss) p↔uJ c ss p/\¬∃x∈Qd ss,x<=p/\p<x+c.aF:=by
 constructor
 ·rintro⟨s,hs,h1,h2⟩;have b:=zI.1 hs;refine⟨⟨s,b.1,h1,h2⟩,?_⟩;rintro⟨x,hx,h3,h4⟩;obtain⟨t,m,a,rfl⟩:=AW.1 hx;obtain⟨i,g⟩:=zQ b.1;obtain⟨j,d⟩:=zQ m;have e:=h.vo g d h1 h2 h3 h4;subst e;rw[g]at d;cases d;simp[a]at b
 ·rintro⟨⟨s,hs,h1,h2⟩,hn⟩;refine⟨s,zI.2 ⟨hs,?_⟩,h1,h2⟩;have:s.many≠0:=λa=>hn ⟨s.st,AW.2 ⟨s,hs,a,rfl⟩,h1,h2⟩;simpa using this
theorem Rt (h:dF c ss):(Qd ss).Pairwise λa b=>a+c.aF<=b:=by
 unfold Qd;rw[r8];exact h.sP.filter _
theorem Ve {st:Nat}{t:cF}:t∈ie c ss st↔t=⟨st,List.replicate c.n false⟩\/t∈ss:=by
 unfold ie;rw[zK,zW];have:t∈ss↔t∈ss.takeWhile (λs=>decide (s.st<st))\/t∈ss.dropWhile (λs=>decide (s.st<st)):=by
  rw[←zK,List.takeWhile_append_dropWhile]
 rw[this];constructor
 ·rintro(h|h|h)
  ·exact .inr (.inl h)
  ·exact .inl h
  ·exact .inr (.inr h)
 ·rintro(h|h|h)
  ·exact .inr (.inl h)
  ·exact .inl h
  ·exact .inr (.inr h)
theorem CS (h:dF c ss){st:Nat}(hd:∀s∈ss,s.st+c.aF<=st\/st+c.aF<=s.st):dF c (ie c ss st):=by
 refine⟨h.ok,λs m=>?_,?_⟩
 ·rcases Ve.1 m with rfl|m
  ·simp
  ·exact h.tk s m
 ·have g:=Hq h.pM st;have u:=h.pg;rw[vR];refine px.2 ⟨h.sP.sublist (Bv _ _),rf.2 ⟨λb e=>?_,h.sP.sublist (List.drop_sublist _ _)⟩,λa r b e=>?_⟩
  ·obtain⟨i,d⟩:=zQ e;rw[kR]at d;have:=g.2 _ _ d;rcases hd b (sH e)with h1|h1
   ·omega
   ·exact h1
  ·obtain⟨i,d⟩:=zQ r;rw[zj]at d;split at d
   ·rename_i hlt;rcases zW.1 e with rfl|e
    ·have:=(g.2 _ _ d).2 hlt;rcases hd a (zG d)with h1|h1
     ·exact h1
     ·omega
    ·obtain⟨j,p⟩:=zQ e;rw[kR]at p;exact h.sZ d p O
   ·cases d
theorem Ed (h:dF c ss){st:Nat}(hd:∀s∈ss,s.st+c.aF<=st\/st+c.aF<=s.st){y:Int}:Tk c (ie c ss st) y↔Tk c ss y:=by
 rw[Vu (CS h hd),Vu h];constructor
 ·rintro⟨k,s,i,hs,hi,rfl,hb⟩;rcases Ve.1 (zG hs)with rfl|hm
  ·have:(⟨st,List.replicate c.n false⟩:cF).is i=false:=Df (by simp[cF.many,xR]) i;rw[this]at hb;cases hb
  ·obtain⟨l,a⟩:=zQ hm;exact⟨l,s,i,a,hi,rfl,hb⟩
 ·rintro⟨k,s,i,hs,hi,rfl,hb⟩;obtain⟨l,a⟩:=zQ (Ve.2 (.inr (zG hs)):s∈ie c ss st);exact⟨l,s,i,a,hi,rfl,hb⟩
theorem Of {st:Nat}(hd:∀s∈ss,s.st+c.aF<=st\/st+c.aF<=s.st):HZ c ss st=0:=by
 unfold HZ;rw[zB];simp only[ko,zU,not_exists,not_and];intro s hs hlt;rcases hd s hs with h|h<;>omega
end Go.Ar
namespace Go.Ar
open Go.Bu (Zb Qz Y8 pn KV dC take Q9 Ks Bounded)
def gf (st:List Nat)(p:Nat):Nat:=st.getD p 0
def AR.f (A:AR)(p:Nat):Nat:=gf A.st p
def mq (rs:List (Nat×Nat))(p:Nat):Prop:=∃r∈rs,r.1<=p/\p<r.1+r.2
theorem Oh {st:List Nat}{p:Nat}(h:gf st p≠0):p<st.length:=by
 apply Classical.byContradiction;intro hn;exact h (by unfold gf;rw[zP,zV O];rfl)
theorem tV {st:List Nat}{a b v p:Nat}(hb:b<=st.length):gf (fZ st a b v) p=if a<=p/\p<b then v else gf st p:=by
 unfold gf;rw[zP,zP,UP];by_cases hp:p<st.length
 ·rw[cV hp];simp only[zX,pH]
 ·rw[zV O,zB O];rfl
theorem Ua {n a m:Nat}:Zb n (a:Int) (m:Int)=true↔1<=m/\a+m<=n:=by
 simp only[Zb,zF,zU];omega
theorem Lw {st:List Nat}{a m:Nat}{fr:List Nat}(hl:a+m<=st.length):uk st a m fr=true↔∀p,a<=p->p<a+m->gf st p∈fr:=by
 unfold uk;rw[j5];constructor
 ·intro h p h1 h2;have d:p<st.length:=by omega
  have:st[p]∈(st.drop a).take m:=by
   refine zG (i:=p-a) ?_;rw[zj,zC O,kR,show a+(p-a)=p by omega,cV d]
  have:=h _ this;unfold gf;rw[zP,cV d];simpa using this
 ·intro h x hx;obtain⟨i,b⟩:=zQ hx;rw[zj]at b;split at b
  ·rename_i hlt;rw[kR]at b;have:=h (a+i) O O;unfold gf at this;rw[zP,b]at this;simpa using this
  ·cases b
theorem CX {st:List Nat}{a m v:Nat}{fr:List Nat}(h1:1<=m)(hl:a+m<=st.length)(h:∀p,a<=p->p<a+m->gf st p∈fr):V6 st (a:Int) (m:Int) v fr=fZ st a (a+m) v:=by
 unfold V6 oc;rw[zC (Ua.2 ⟨h1,hl⟩),dE,dE,(Lw hl).2 h];rfl
structure PG (A:AR):Prop where
 len:A.st.length=A.n
 n1:32<=A.n
 n2:A.n<=1024
 n16:A.n%16=0
 le:∀p,A.f p<=3
 us:∀p,A.f p=1↔A.ow p≠0
 fr:∀p,A.S p=true↔2<=A.f p
 hp:∀p,A.f p=0↔A.f (p/16*16)=0
theorem PG.lt {A:AR}(h:PG A){p:Nat}(hp:A.f p≠0):p<A.n:=h.len▸Oh hp
theorem PG.jo {A:AR}(h:PG A):Bounded A.S A.n:=λp a=>h.lt (by have:=(h.fr p).1 a;omega)
theorem PG.kG {A:AR}(h:PG A){p q:Nat}(e:p/16=q/16):A.f p=0↔A.f q=0:=by rw[h.hp p,h.hp q,e]
theorem PG.same {A B:AR}(h:PG A)(e1:B.n=A.n)(e2:B.st=A.st)(e3:B.S=A.S)(e4:B.ow=A.ow):PG B:=by
 have a:∀p,B.f p=A.f p:=λp=>by unfold AR.f;rw[e2]
 exact⟨by rw[e2,e1];exact h.len,by rw[e1];exact h.n1,by rw[e1];exact h.n2,by rw[e1];exact h.n16,λp=>by rw[a];exact h.le p,λp=>by rw[a,e4];exact h.us p,λp=>by rw[a,e3];exact h.fr p,λp=>by rw[a,a];exact h.hp p⟩
theorem Eg {ow:Nat->Nat}{a m no:Nat}(h1:1<=m)(h2:a+m<=1024)(p:Nat):jz ow a m no p=if a<=p/\p<a+m then no else ow p:=by
 unfold jz;rw[zC (Ua.2 ⟨h1,h2⟩)]
theorem FH {n:Nat}{S:Nat->Bool}{a m:Nat}(h1:1<=m)(h2:a+m<=n)(h:∀p,a<=p->p<a+m->S p=false):Qz n S (a:Int) (m:Int)=dC S a (a+m):=by
 unfold Qz;rw[Ua.2 ⟨h1,h2⟩,dE,dE,KV.2 h];rfl
structure Out (A B:AR) (a b:Nat):Prop where
 n:B.n=A.n
 len:B.st.length=A.st.length
 f:∀p,¬(a<=p/\p<b)->B.f p=A.f p
 ow:∀p,¬(a<=p/\p<b)->B.ow p=A.ow p
 S:∀p,¬(a<=p/\p<b)->B.S p=A.S p
theorem Out.pg {A B:AR}{a b v:Nat}(o:Out A B a b)(h:PG A)(hv:v<=3)(hf:∀p,a<=p->p<b->B.f p=v)(hw:∀p,a<=p->p<b->(v=1↔B.ow p≠0))(hS:∀p,a<=p->p<b->(B.S p=true↔2<=v))
 (hz:∀p,B.f p=0↔B.f (p/16*16)=0):PG B:=by
 refine⟨by rw[o.len,o.n];exact h.len,by rw[o.n];exact h.n1,by rw[o.n];exact h.n2,by rw[o.n];exact h.n16,λp=>?_,λp=>?_,λp=>?_,hz⟩
 ·by_cases hp:a<=p/\p<b
  ·rw[hf p hp.1 hp.2];exact hv
  ·rw[o.f p hp];exact h.le p
 ·by_cases hp:a<=p/\p<b
  ·rw[hf p hp.1 hp.2];exact hw p hp.1 hp.2
  ·rw[o.f p hp,o.ow p hp];exact h.us p
 ·by_cases hp:a<=p/\p<b
  ·rw[hf p hp.1 hp.2];exact hS p hp.1 hp.2
  ·rw[o.f p hp,o.S p hp];exact h.fr p
theorem Out.zero {A B:AR}{a b v:Nat}(o:Out A B a b)(h:PG A)(hf:∀p,a<=p->p<b->B.f p=v)(hv:v≠0)(hA:∀p,a<=p->p<b->A.f p≠0):∀p,B.f p=0↔A.f p=0:=by
 intro p;by_cases hp:a<=p/\p<b
 ·rw[hf p hp.1 hp.2];exact⟨λe=>(hv e).elim,λe=>(hA p hp.1 hp.2 e).elim⟩
 ·rw[o.f p hp]
theorem FW {A B:AR}(h:PG A)(e:∀p,B.f p=0↔A.f p=0):∀p,B.f p=0↔B.f (p/16*16)=0:=λp=>by rw[e,e];exact h.hp p
theorem FG {A:AR}(h:PG A){a m:Nat}(h1:1<=m)(hu:∀p,a<=p->p<a+m->A.f p=1):Out A (VB A (a,m)) a (a+m)/\(∀p,a<=p->p<a+m->(VB A (a,m)).f p=2/\(VB A (a,m)).ow p=0)/\PG (VB A (a,m))/\∀p,(VB A (a,m)).f p=0↔A.f p=0:=by
 have g:a+m<=A.n:=by have:=h.lt (p:=a+m-1) (by rw[hu _ O O];omega);omega
 have w:=h.n2;have e1:(VB A (a,m)).st=fZ A.st a (a+m) 2:=CX h1 (by rw[h.len];exact g) λp b d=>by
  have:=hu p b d;unfold AR.f at this;rw[this];simp
 have e2:(VB A (a,m)).S=dC A.S a (a+m):=FH h1 g λp b d=>by
  apply ng.2;intro hS;have:=(h.fr p).1 hS;have:=hu p b d;omega
 have u:∀p,(VB A (a,m)).ow p=if a<=p/\p<a+m then 0 else A.ow p:=λp=>Eg h1 O p
 have j:∀p,(VB A (a,m)).f p=if a<=p/\p<a+m then 2 else A.f p:=λp=>by unfold AR.f;rw[e1,tV (by rw[h.len];exact g)]
 have o:Out A (VB A (a,m)) a (a+m):=⟨rfl,by rw[e1,Kq],λp e=>by rw[j,zB e],λp e=>by rw[u,zB e],λp e=>by
  rw[e2];unfold dC;have:(decide (a<=p)&&decide (p<a+m))=false:=by simp;omega
  rw[this,Bool.or_false]⟩
 have i:∀p,a<=p->p<a+m->(VB A (a,m)).f p=2:=λp b d=>by rw[j,zC ⟨b,d⟩]
 have s:∀p,a<=p->p<a+m->(VB A (a,m)).ow p=0:=λp b d=>by rw[u,zC ⟨b,d⟩]
 have r:=o.zero h i O λp b d=>by rw[hu p b d];omega
 refine⟨o,λp b d=>⟨i p b d,s p b d⟩,o.pg h O i (λp b d=>by rw[s p b d];simp) (λp b d=>?_) (FW h r),r⟩;rw[e2,Q9];exact⟨λ_=>zD _,λ_=>.inr ⟨b,d⟩⟩
structure rX (A B:AR) (rs:List (Nat×Nat)):Prop where
 pg:PG B
 n:B.n=A.n
 tb:B.tb=A.tb
 room:B.room=A.room
 cM:B.cM=A.cM
 cE:B.cE=A.cE
 runs:B.runs=A.runs
 i:∀p,mq rs p->B.f p=2/\B.ow p=0
 o:∀p,¬mq rs p->B.f p=A.f p/\B.ow p=A.ow p
 z:∀p,B.f p=0↔A.f p=0
theorem Cy:∀(rs:List (Nat×Nat)) {A:AR},PG A->(∀r∈rs,1<=r.2)->(∀r∈rs,∀p,r.1<=p->p<r.1+r.2->A.f p=1)->rs.Pairwise (λa b=>a.1+a.2<=b.1\/b.1+b.2<=a.1)->rX A (VW A rs) rs
 | [],A,h,_,_,_=>⟨h,rfl,rfl,rfl,rfl,rfl,rfl,λp ⟨r,hr,_⟩=>by simp at hr,λp _=>⟨rfl,rfl⟩,λp=>Iff.rfl⟩
 | (a,m)::rs,A,h,hp,hu,hd=>by
  have hd':=rf.1 hd;obtain⟨o,B,w,C⟩:=FG h (hp _ (py ..)) (hu _ (py ..));have d:=Cy rs w (λr hr=>hp r (nF _ hr)) (λr hr p u s=>by
   have:=hd'.1 r hr;simp only at this;rw[o.f p O];exact hu r (nF _ hr) p u s) hd'.2
  have e:VW A ((a,m)::rs)=VW (VB A (a,m)) rs:=rfl;rw[e];refine⟨d.pg,d.n,d.tb,d.room,d.cM,d.cE,d.runs,λp g=>?_,λp g=>?_,λp=>(d.z p).trans (C p)⟩
  ·by_cases j:mq rs p
   ·exact d.i p j
   ·have:=d.o p j;obtain⟨r,hr,u,s⟩:=g;rcases zW.1 hr with rfl|hr
    ·rw[this.1,this.2];exact B p u s
    ·exact(j ⟨r,hr,u,s⟩).elim
  ·have j:¬mq rs p:=λ⟨r,hr,x⟩=>g ⟨r,nF _ hr,x⟩;have y:¬(a<=p/\p<a+m):=λx=>g ⟨(a,m),py ..,x⟩;have:=d.o p j;exact⟨this.1.trans (o.f p y),this.2.trans (o.ow p y)⟩
theorem AJ {A:AR}(h:PG A){a m no:Nat}(h1:1<=m)(hn:no≠0)(hS:∀p,a<=p->p<a+m->A.S p=true):Out A (dP A a m no) a (a+m)/\(∀p,a<=p->p<a+m->(dP A a m no).f p=1/\(dP A a m no).ow p=no)/\PG (dP A a m no)/\∀p,(dP A a m no).f p=0↔A.f p=0:=by
 have i:∀p,a<=p->p<a+m->2<=A.f p:=λp d b=>(h.fr p).1 (hS p d b);have r:a+m<=A.n:=by have:=h.lt (p:=a+m-1) (by have:=i (a+m-1) O O;omega);omega
 have z:=h.n2;have e1:(dP A a m no).st=fZ A.st a (a+m) 1:=CX h1 (by rw[h.len];exact r) λp d b=>by
  have x:=i p d b;have y:=h.le p;unfold AR.f at x y;have:gf A.st p=2\/gf A.st p=3:=by omega
  simpa using this
 have w:∀p,(dP A a m no).ow p=if a<=p/\p<a+m then no else A.ow p:=λp=>Eg h1 O p
 have j:∀p,(dP A a m no).f p=if a<=p/\p<a+m then 1 else A.f p:=λp=>by unfold AR.f;rw[e1,tV (by rw[h.len];exact r)]
 have o:Out A (dP A a m no) a (a+m):=⟨rfl,by rw[e1,Kq],λp e=>by rw[j,zB e],λp e=>by rw[w,zB e],λp e=>by
  show take A.S a (a+m) p=A.S p;unfold take;have:(decide (a<=p)&&decide (p<a+m))=false:=by simp;omega
  rw[this];simp⟩
 have g:∀p,a<=p->p<a+m->(dP A a m no).f p=1:=λp d b=>by rw[j,zC ⟨d,b⟩]
 have s:∀p,a<=p->p<a+m->(dP A a m no).ow p=no:=λp d b=>by rw[w,zC ⟨d,b⟩]
 have u:=o.zero h g O λp d b=>by have:=i p d b;omega
 refine⟨o,λp d b=>⟨g p d b,s p d b⟩,o.pg h O g (λp d b=>by rw[s p d b];simp[hn]) (λp d b=>?_) (FW h u),u⟩;show take A.S a (a+m) p=true↔_;rw[Ks];constructor
 ·rintro⟨_,hx⟩;exact(hx ⟨d,b⟩).elim
 ·intro hx;omega
theorem Dy:∀(m:Nat) {st:List Nat} {a:Nat},(a+m)*16<=st.length->(∀p,a*16<=p->p<(a+m)*16->gf st p=0)->(Uu st a m).length=st.length/\∀p,gf (Uu st a m) p=if a*16<=p/\p<(a+m)*16 then 3 else gf st p
 | 0,st,a,hl,hz=>⟨rfl,λp=>by rw[zB O];rfl⟩
 | m+1,st,a,hl,hz=>by
  obtain⟨i1,i2⟩:=Dy m (st:=st) (a:=a) O λp d g=>hz p d O;rw[Fi];have b:gf (Uu st a m) (16*(a+m))=0:=by rw[i2,zB O];exact hz _ O O
  have ok:kv (Uu st a m) ((a+m:Nat):Int)=0:=by
   unfold kv;rw[D4 (by rw[i1];omega),zC rfl,dE];unfold gf at b;rw[zC b]
  have e:iY (Uu st a m) ((a+m:Nat):Int)=fZ (Uu st a m) (16*(a+m)) (16*(a+m)+16) 3:=by
   unfold iY;rw[zC ok,dE]
  rw[e];refine⟨by rw[Kq,i1],λp=>?_⟩;rw[tV (by rw[i1];omega),i2];by_cases h1:16*(a+m)<=p/\p<16*(a+m)+16
  ·rw[zC h1,zC O]
  ·rw[zB h1];by_cases h2:a*16<=p/\p<(a+m)*16
   ·rw[zC h2,zC O]
   ·rw[zB h2,zB O]
theorem G0 {sp:Sp}{s m:Nat}(h:eZ sp (s:Int) (m:Int)=0):1<=m/\s+m<=sp.st.length/\∀p,s<=p->p<s+m->gf sp.st p=0:=by
 unfold eZ at h;split at h
 ·rename_i hr;obtain⟨e,b⟩:=Ua.1 hr;rw[dE,dE]at h;split at h
  ·cases h
  ·rename_i hn;refine⟨e,b,λp j g=>?_⟩;have a:p<sp.st.length:=by omega
   have d:sp.st[p]∈(sp.st.drop s).take m:=by
    refine zG (i:=p-s) ?_;rw[zj,zC O,kR,show s+(p-s)=p by omega,cV a]
   simp only[ko,not_exists,not_and]at hn;have:=hn _ d;unfold gf;rw[zP,cV a];simpa using this
 ·cases h
structure Grown (A B:AR) (sp sp':Sp) (s size:Nat):Prop where
 pg:PG B
 n:B.n=A.n
 tb:B.tb=A.tb
 room:B.room=A.room
 cM:B.cM=A.cM
 cE:B.cE=A.cE
 runs:B.runs=A.runs
 ow:B.ow=A.ow
 SU:s%16=0
 s1:16<=s
 sl:s+size<=A.n
 un:∀p,s<=p->p<s+size->gf sp.st p=0
 i:∀p,s<=p->p<s+size->B.f p=3/\gf sp'.st p=1
 o:∀p,¬(s<=p/\p<s+size)->B.f p=A.f p/\gf sp'.st p=gf sp.st p
 w:∀x,¬(s*32<=x/\x<(s+size)*32)->sp'.wd x=sp.wd x
 l:sp'.st.length=sp.st.length
 pk:sp'.pk=sp.pk
theorem Uy {sp:Sp}{size s:Nat}(h1:1<=size)(h:cY sp size=some s):eZ sp (s:Int) (size:Int)=0/\s≠0/\(∃j,s=j*size)/\∀j,j*size<s->1<=j->eZ sp ((j*size:Nat):Int) (size:Int)≠0:=by
 unfold cY at h;obtain⟨p,us,vs,u,y⟩:=List.find?_eq_some_iff_append.1 h;simp only[zF,bne_iff_ne,ne_eq,zT]at p;have e:s∈(List.range (sp.st.length/size)).map (· * size):=by rw[u];simp
 obtain⟨j,w,rfl⟩:=zE.1 e;rw[zg]at w;refine⟨p.2,p.1,⟨j,rfl⟩,λi x z=>?_⟩;have A:i<j:=Nat.lt_of_mul_lt_mul_right x;have:i*size∈us:=by
  have g:i*size∈(List.range (sp.st.length/size)).map (· * size):=zE.2 ⟨i,zg.2 O,rfl⟩;have d:((List.range (sp.st.length/size)).map (· * size)).Pairwise (· < ·):=by
   rw[r8];exact List.pairwise_lt_range.imp λ{a b} m=>Nat.mul_lt_mul_of_pos_right m O
  rw[u]at g d;rcases zK.1 g with h|h
  ·exact h
  ·rcases zW.1 h with h|h
   ·have:=vU O h;omega
   ·have:=(rf.1 (px.1 d).2.1).1 _ h;omega
 have:=y _ this;have r:i*size≠0:=by
  have:=Nat.mul_pos (show 0<i by omega) (show 0<size by omega);omega
 simpa[r]using this
theorem DI {sp:Sp}{s m:Nat}(h:eZ sp (s:Int) (m:Int)=0):(fS sp (s:Int) (m:Int)).st.length=sp.st.length/\(∀p,gf (fS sp (s:Int) (m:Int)).st p=if s<=p/\p<s+m then 1 else gf sp.st p)/\(∀x,¬(s*32<=x/\x<(s+m)*32)->(fS sp (s:Int) (m:Int)).wd x=sp.wd x)/\(fS sp (s:Int) (m:Int)).pk=sp.pk:=by
 obtain⟨d,b,_⟩:=G0 h;unfold fS;rw[zC h,dE,dE];refine⟨by simp[Sp.set,Kq],λp=>tV b,λx a=>?_,rfl⟩;show(if s*32<=x/\x<(s+m)*32 then 0 else sp.wd x)=_
 rw[zB a]
theorem MO {A:AR}{sp:Sp}(h:PG A)(hl:sp.st.length=A.n)(hz:∀p,gf sp.st p=0->A.f p=0){size:Nat}(hs:size=16\/size=32\/size=64){B:AR}{sp':Sp}(hg:Uv A sp size=some (B,sp')) :
 ∃s,cY sp size=some s/\Grown A B sp sp' s size:=by
 unfold Uv at hg;split at hg
 ·cases hg
 ·rename_i s hgs;cases hg;obtain⟨y,D,⟨j,J⟩,_⟩:=Uy O hgs;obtain⟨E,C,u⟩:=G0 y;have m:s%16=0:=by rcases hs with rfl|rfl|rfl<;>omega
  have x:size%16=0:=by rcases hs with rfl|rfl|rfl<;>omega
  have e1:s/16*16=s:=by omega
  have e2:(s/16+size/16)*16=s+size:=by omega
  have e:∀p,s<=p->p<s+size->A.f p=0:=λp b d=>hz p (u p b d);obtain⟨F,i⟩:=Dy (size/16) (st:=A.st) (a:=s/16) (by rw[e2,h.len,←hl];exact C) (by rw[e1,e2];exact e);rw[e1,e2]at i;obtain⟨H,z,G,b4⟩:=DI y;have g:s+size<=A.n:=by rw[←hl];exact C
  have w:Qz A.n A.S (s:Int) (size:Int)=dC A.S s (s+size):=FH E g λp b d=>by
   apply ng.2;intro hS;have:=(h.fr p).1 hS;have:=e p b d;omega
  refine⟨s,hgs,⟨?_,rfl,rfl,rfl,rfl,rfl,rfl,rfl,m,O,g,u,λp b d=>⟨?_,?_⟩,λp hp=>⟨?_,?_⟩,G,H,b4⟩⟩
  ·have o:Out A {A with st:=Uu A.st (s/16) (size/16),S:=Qz A.n A.S (s:Int) (size:Int)} s (s+size):=⟨rfl,F,λp hp=>by show gf _ p=_;rw[i,zB hp];rfl,λp hp=>rfl,λp hp=>by
    show Qz A.n A.S (s:Int) (size:Int) p=A.S p;rw[w];unfold dC;have:(decide (s<=p)&&decide (p<s+size))=false:=by simp;omega
    rw[this,Bool.or_false]⟩
   have r:∀p,s<=p->p<s+size->AR.f {A with st:=Uu A.st (s/16) (size/16),S:=Qz A.n A.S (s:Int) (size:Int)} p=3:=λp b d=>by show gf _ p=3;rw[i,zC ⟨b,d⟩]
   refine o.pg h (zD _) r (λp b d=>?_) (λp b d=>?_) λp=>?_
   ·have D:=e p b d;have:=h.us p;constructor
    ·intro hx;omega
    ·intro hx;have:=this.2 hx;omega
   ·show Qz A.n A.S (s:Int) (size:Int) p=true↔_;rw[w,Q9];exact⟨λ_=>O,λ_=>.inr ⟨b,d⟩⟩
   ·by_cases hp:s<=p/\p<s+size
    ·rw[r p hp.1 hp.2,r (p/16*16) O O]
    ·rw[o.f p hp,o.f (p/16*16) O];exact h.hp p
  ·show gf (Uu A.st (s/16) (size/16)) p=3;rw[i,zC ⟨b,d⟩]
  ·rw[z,zC ⟨b,d⟩]
  ·show gf (Uu A.st (s/16) (size/16)) p=A.f p;rw[i,zB hp];rfl
  ·rw[z,zB hp]
end Go.Ar
namespace Go.Ar
open Go.Bu (Zb Qz Y8 pn KV dC take Q9 Ks Bounded full can Yt Us Zw QB ZE Q5 QC ZZ)
def Cl (A:AR)(k:Nat)(c:bZ)(ss:List cF):Prop:=A.tb[k]?=some c/\A.cE[k]?=some ss
def fM (A:AR)(k:Nat)(x:Int):Prop:=∃c ss,Cl A k c ss/\Tk c ss x
def gT (A:AR)(k:Nat)(x:Int):Prop:=∃t,A.cM[k]?=some t/\x∈t.bs.flatten
structure GA (A:AR):Prop where
 pg:PG A
 tb:A.tb.length<=40
 lc:A.cE.length=A.tb.length
 lt:A.cM.length=A.tb.length
 cE:∀k c ss,Cl A k c ss->dF c ss
 one:∀k c ss,Cl A k c ss->∀s∈ss,s.st/16=(s.st+c.aF-1)/16
 ow:∀k c ss,Cl A k c ss->∀p,A.ow p=k+1↔uJ c ss p
 jI:∀p,A.ow p=41↔mq A.runs p
 rz:∀p,A.ow p=41\/A.ow p<=A.tb.length
 gO:∀r∈A.runs,1<=r.2
 j9:A.runs.Pairwise λa b=>a.1+a.2<=b.1\/b.1+b.2<=a.1
 pc:∀(k:Nat) (t:gC),A.cM[k]?=some t->t.bs.flatten.Nodup
 lZ:∀(k:Nat) c ss (t:gC),Cl A k c ss->A.cM[k]?=some t->∀x∈t.bs.flatten,Tk c ss x
 ot:∀(k:Nat) (c:bZ) (t:gC),A.tb[k]?=some c->A.cM[k]?=some t->∀xs∈t.bs,xs.length=c.batch
structure Kp (A B:AR):Prop where
 n:B.n=A.n
 tb:B.tb=A.tb
 room:B.room=A.room
 z:∀p,B.f p=0↔A.f p=0
 t:∀p,B.f p=3->A.f p=3
theorem Kp.refl (A:AR):Kp A A:=⟨rfl,rfl,rfl,λ_=>Iff.rfl,λ_=>id⟩
theorem Kp.trans {A B C:AR}(h:Kp A B)(k:Kp B C):Kp A C:=⟨k.n.trans h.n,k.tb.trans h.tb,k.room.trans h.room,λp=>(k.z p).trans (h.z p),λp a=>h.t p (k.t p a)⟩
theorem Kp.aF {A B:AR}(e1:B.n=A.n)(e2:B.tb=A.tb)(e3:B.room=A.room)(e4:B.st=A.st):Kp A B:=⟨e1,e2,e3,λp=>by unfold AR.f;rw[e4],λp=>by unfold AR.f;rw[e4];exact id⟩
variable {A:AR}{k:Nat}{c:bZ}{ss:List cF}
theorem Cl.lt (h:Cl A k c ss):k<A.tb.length:=(cW.1 h.1).1
theorem Cl.eq {c':bZ}{ss':List cF}(h:Cl A k c ss)(h':Cl A k c' ss'):c=c'/\ss=ss':=⟨Option.some.inj (h.1.symm.trans h'.1),Option.some.inj (h.2.symm.trans h'.2)⟩
theorem GA.cl (h:GA A){k:Nat}(hk:k<A.tb.length):∃c ss t,Cl A k c ss/\A.cM[k]?=some t:=by
 have a:=h.lc;have b:=h.lt;exact⟨A.tb[k],A.cE[k],A.cM[k],⟨by simp,by simp⟩,by simp⟩
theorem GA.used (h:GA A)(hk:Cl A k c ss){s:cF}(hs:s∈ss){p:Nat}(h1:s.st<=p)(h2:p<s.st+c.aF):A.f p=1/\A.ow p=k+1:=by
 have:=(h.ow k c ss hk p).2 ⟨s,hs,h1,h2⟩;exact⟨(h.pg.us p).2 O,this⟩
theorem GA.jm (h:GA A){r:Nat×Nat}(hr:r∈A.runs){p:Nat}(h1:r.1<=p)(h2:p<r.1+r.2):A.f p=1/\A.ow p=41:=by
 have:=(h.jI p).2 ⟨r,hr,h1,h2⟩;exact⟨(h.pg.us p).2 O,this⟩
theorem GA.gQ (h:GA A){r s:Nat×Nat}(hr:r∈A.runs)(hs:s∈A.runs){x:Nat}(h1:r.1<=x)(h2:x<r.1+r.2)(h3:s.1<=x)(h4:x<s.1+s.2):r=s:=by
 obtain⟨i,d⟩:=zQ hr;obtain⟨j,e⟩:=zQ hs;obtain⟨b,rfl⟩:=cW.1 d;obtain⟨a,rfl⟩:=cW.1 e;rcases pF i j with hl|hl|hl
 ·have:=mc.1 h.j9 i j b a hl;omega
 ·subst hl;rfl
 ·have:=mc.1 h.j9 j i a b hl;omega
theorem GA.fit (h:GA A){r:Nat×Nat}(hr:r∈A.runs):r.1+r.2<=A.n:=by
 have:=h.gO r hr;have:=h.pg.lt (p:=r.1+r.2-1) (by rw[(h.jm hr (p:=r.1+r.2-1) O O).1];omega);omega
theorem GA.nX (h:GA A):iI A:=by
 have w:=h.pg.n2;refine⟨λr b s i x g d p j=>h.gQ b i g d p j,λx m a=>?_,λx m u a=>?_,λr b=>?_⟩
 ·obtain⟨r,b,g,d⟩:=(h.jI x).1 a;unfold qP;rw[yL];exact⟨r,b,by simp[g,d]⟩
 ·rcases h.rz x with e|e
  ·exact(a e).elim
  ·exact e
 ·have:=h.fit b;omega
theorem V7 (hk:Cl A k c ss){ss':List cF}{j:Nat}{d:bZ}{tt:List cF}(h:Cl {A with cE:=A.cE.set k ss'} j d tt):(j=k/\d=c/\tt=ss')\/(j≠k/\Cl A j d tt):=by
 obtain⟨b,a⟩:=h;by_cases hjk:j=k
 ·subst hjk;have e:=(cW.1 hk.2).1;simp only[zL e]at a;exact .inl ⟨rfl,Option.some.inj (b.symm.trans hk.1),(Option.some.inj a).symm⟩
 ·simp only[zk (Ne.symm hjk)]at a;exact .inr ⟨hjk,b,a⟩
theorem UK (hk:Cl A k c ss)(ss':List cF):Cl {A with cE:=A.cE.set k ss'} k c ss':=⟨hk.1,zL (cW.1 hk.2).1⟩
theorem LN {ss':List cF}{j:Nat}{d:bZ}{tt:List cF}(hjk:j≠k)(h:Cl A j d tt):Cl {A with cE:=A.cE.set k ss'} j d tt:=⟨h.1,(zk (Ne.symm hjk)).trans h.2⟩
theorem GA.kO (h:GA A)(hk:Cl A k c ss){ss':List cF}(hC:dF c ss')(hst:ss'.map (·.st)=ss.map (·.st))(ht:∀t,A.cM[k]?=some t->∀x∈t.bs.flatten,Tk c ss' x):GA {A with cE:=A.cE.set k ss'}:=by
 refine⟨h.pg.same rfl rfl rfl rfl,h.tb,by simp[h.lc],h.lt,λj d b a=>?_,λj d b a s i=>?_,λj d b a p=>?_,h.jI,h.rz,h.gO,h.j9,h.pc,λj d b t a g=>?_,h.ot⟩
 ·rcases V7 hk a with⟨rfl,rfl,rfl⟩|⟨hne,a⟩
  ·exact hC
  ·exact h.cE j d b a
 ·rcases V7 hk a with⟨rfl,rfl,rfl⟩|⟨hne,a⟩
  ·have:s.st∈ss.map (·.st):=by rw[←hst];exact zE.2 ⟨s,i,rfl⟩
   obtain⟨t,ht,e⟩:=zE.1 this;rw[←e];exact h.one _ _ _ hk t ht
  ·exact h.one j d b a s i
 ·rcases V7 hk a with⟨rfl,rfl,rfl⟩|⟨hne,a⟩
  ·rw[Nf hst];exact h.ow _ _ _ hk p
  ·exact h.ow j d b a p
 ·rcases V7 hk a with⟨rfl,rfl,rfl⟩|⟨hne,a⟩
  ·exact ht t g
  ·exact h.lZ j d b t a g
theorem xE (hk:Cl A k c ss){ss':List cF}{j:Nat}{x:Int}:fM {A with cE:=A.cE.set k ss'} j x↔(j=k/\Tk c ss' x)\/(j≠k/\fM A j x):=by
 constructor
 ·rintro⟨d,tt,hj,hx⟩;rcases V7 hk hj with⟨rfl,rfl,rfl⟩|⟨hne,hj⟩
  ·exact .inl ⟨rfl,hx⟩
  ·exact .inr ⟨hne,d,tt,hj,hx⟩
 ·rintro(⟨rfl,hx⟩|⟨hne,d,tt,hj,hx⟩)
  ·exact⟨c,ss',UK hk ss',hx⟩
  ·exact⟨d,tt,LN hne hj,hx⟩
theorem KO (hk:Cl A k c ss){x:Int}:fM A k x↔Tk c ss x:=by
 constructor
 ·rintro⟨d,tt,hj,hx⟩;obtain⟨rfl,rfl⟩:=hk.eq hj;exact hx
 ·intro hx;exact⟨c,ss,hk,hx⟩
def swp (A:AR)(k:Nat)(c:bZ)(ss:List cF):AR:=VW {A with cE:=A.cE.set k (cG ss)} ((Qd ss).map λs=>(s,c.aF))
theorem Ag {p:Nat}:mq ((Qd ss).map λs=>(s,c.aF)) p↔∃x∈Qd ss,x<=p/\p<x+c.aF:=by
 unfold mq;simp only[zE];constructor
 ·rintro⟨_,⟨x,hx,rfl⟩,h⟩;exact⟨x,hx,h⟩
 ·rintro⟨x,hx,h⟩;exact⟨_,⟨x,hx,rfl⟩,h⟩
theorem GA.jX (h:GA A)(hk:Cl A k c ss){x:Nat}(hx:x∈Qd ss){p:Nat}(h1:x<=p)(h2:p<x+c.aF):A.f p=1/\A.ow p=k+1:=by
 obtain⟨s,a,_,rfl⟩:=AW.1 hx;exact h.used hk a h1 h2
theorem GA.qd (h:GA A)(hk:Cl A k c ss):rX {A with cE:=A.cE.set k (cG ss)} (swp A k c ss) ((Qd ss).map λs=>(s,c.aF)):=by
 have g:=h.cE k c ss hk;refine Cy _ (h.pg.same rfl rfl rfl rfl) (λr e=>?_) (λr e p m i=>?_) ?_
 ·obtain⟨x,_,rfl⟩:=zE.1 e;exact g.pg
 ·obtain⟨x,j,rfl⟩:=zE.1 e;exact(h.jX hk j m i).1
 ·rw[r8];exact(Rt g).imp λ{a b} d=>.inl d
theorem GA.swp (h:GA A)(hk:Cl A k c ss):GA (Go.Ar.swp A k c ss):=by
 have b:=h.qd hk;have w:=h.cE k c ss hk;have D:=hk.lt;have F:=h.tb;have cl:∀{j d m},Cl (Go.Ar.swp A k c ss) j d m->(j=k/\d=c/\m=cG ss)\/(j≠k/\Cl A j d m):=λ{j d m} a=>V7 hk ⟨by rw[←b.tb];exact a.1,by rw[←b.cE];exact a.2⟩;have own:∀p,mq ((Qd ss).map λs=>(s,c.aF)) p->A.ow p=k+1:=λp g=>by
  obtain⟨x,r,z,C⟩:=Ag.1 g;exact(h.jX hk r z C).2
 have cM:(Go.Ar.swp A k c ss).cM=A.cM:=b.cM;have tb:(Go.Ar.swp A k c ss).tb=A.tb:=b.tb;have runs:(Go.Ar.swp A k c ss).runs=A.runs:=b.runs;refine⟨b.pg,by rw[tb];exact h.tb,by rw[b.cE,tb];simp[h.lc],by rw[cM,tb];exact h.lt,λj d m a=>?_,λj d m a s y=>?_,λj d m a p=>?_,λp=>?_,λp=>?_,by rw[runs];exact h.gO,by rw[runs];exact h.j9,by rw[cM];exact h.pc,λj d m t a u=>?_,by rw[cM,tb];exact h.ot⟩
 ·rcases cl a with⟨rfl,rfl,rfl⟩|⟨hne,a⟩
  ·exact w.cG
  ·exact h.cE j d m a
 ·rcases cl a with⟨rfl,rfl,rfl⟩|⟨hne,a⟩
  ·exact h.one _ _ _ hk s (zI.1 y).1
  ·exact h.one j d m a s y
 ·by_cases g:mq ((Qd ss).map λs=>(s,c.aF)) p
  ·rw[(b.i p g).2];have B:=own p g;rcases cl a with⟨rfl,rfl,rfl⟩|⟨hne,a⟩
   ·rw[EI w];constructor
    ·intro e;omega
    ·rintro⟨_,hn⟩;exact(hn (Ag.1 g)).elim
   ·rw[←h.ow j d m a p,B];omega
  ·rw[(b.o p g).2];rcases cl a with⟨rfl,rfl,rfl⟩|⟨hne,a⟩
   ·rw[EI w];show A.ow p=_↔_;rw[h.ow _ _ _ hk p];exact⟨λr=>⟨r,λE=>g (Ag.2 E)⟩,λr=>r.1⟩
   ·exact h.ow j d m a p
 ·rw[runs];by_cases g:mq ((Qd ss).map λs=>(s,c.aF)) p
  ·rw[(b.i p g).2,←h.jI,own p g];omega
  ·rw[(b.o p g).2];exact h.jI p
 ·rw[tb];by_cases g:mq ((Qd ss).map λs=>(s,c.aF)) p
  ·rw[(b.i p g).2];omega
  ·rw[(b.o p g).2];exact h.rz p
 ·rw[cM]at u;rcases cl a with⟨rfl,rfl,rfl⟩|⟨hne,a⟩
  ·intro x r;exact(Cw w).2 (h.lZ _ _ _ t hk u x r)
  ·exact h.lZ j d m t a u
theorem GA.zx (h:GA A)(hk:Cl A k c ss):Kp A (Go.Ar.swp A k c ss):=by
 have b:=h.qd hk;refine⟨b.n,b.tb,b.room,b.z,λp a=>?_⟩;by_cases hi:mq ((Qd ss).map λs=>(s,c.aF)) p
 ·rw[(b.i p hi).1]at a;omega
 ·rw[(b.o p hi).1]at a;exact a
theorem GA.Ab (h:GA A)(hk:Cl A k c ss){j:Nat}{x:Int}:fM (Go.Ar.swp A k c ss) j x↔fM A j x:=by
 have b:=h.qd hk;have a:=h.cE k c ss hk;have e:fM (Go.Ar.swp A k c ss) j x↔fM {A with cE:=A.cE.set k (cG ss)} j x:=by unfold fM Cl;rw[b.tb,b.cE]
 rw[e,xE hk,Cw a];constructor
 ·rintro(⟨rfl,hx⟩|⟨_,hx⟩)
  ·exact(KO hk).2 hx
  ·exact hx
 ·intro hx;by_cases hjk:j=k
  ·subst hjk;exact .inl ⟨rfl,(KO hk).1 hx⟩
  ·exact .inr ⟨hjk,hx⟩
theorem U6 {k:Int}:A.ck k=true↔∃j:Nat,k=j/\j<A.tb.length:=by
 unfold AR.ck;simp only[zF,zU];constructor
 ·intro h;exact⟨k.toNat,O,O⟩
 ·rintro⟨j,rfl,h⟩;omega
structure Ob (A B:AR):Prop where
 ga:GA B
 kp:Kp A B
 runs:B.runs=A.runs
theorem Ij (h:GA A)(k m:Int):Ob A (Yu A k m)/\(Yu A k m).cM=A.cM/\(Yb A k m).Nodup/\(Yb A k m≠[]->∃j:Nat,k=j/\j<A.tb.length)/\(∀x∈Yb A k m,¬fM A k.toNat (x:Int)) ∧
 ∀j y,fM (Yu A k m) j y↔fM A j y\/(j=k.toNat/\∃x∈Yb A k m,y=((x:Nat):Int)):=by
 by_cases h0:Qp A k m=0
 ·have e:A.ck k=true:=by
   unfold Qp at h0;split at h0
   ·assumption
   ·cases h0
  obtain⟨j,rfl,u⟩:=U6.1 e;obtain⟨c,ss,t,b,D⟩:=h.cl u;have r:Vh A (j:Int) m=QT c m.toNat ss:=by unfold Vh;rw[dE,b.1,b.2]
  have g:Yu A (j:Int) m = {A with cE:=A.cE.set j (QT c m.toNat ss).2}:=by unfold Yu;rw[zC h0,r,dE]
  have d:Yb A (j:Int) m=(QT c m.toNat ss).1:=by unfold Yb;rw[zC h0,r]
  rw[g,d];obtain⟨s1,s2,C,B,w,s⟩:=Hs m.toNat (h.cE j c ss b);refine⟨⟨h.kO b s1 s2 λz p x a=>(s x).2 (.inr (h.lZ j c ss z b p x a)),Kp.aF rfl rfl rfl rfl,rfl⟩,rfl,B,λ_=>⟨j,rfl,u⟩,λx a=>?_,λi y=>?_⟩
  ·rw[dE,KO b];exact w x a
  ·rw[xE b,s,dE];by_cases hij:i=j
   ·subst hij;rw[KO b];constructor
    ·rintro(⟨_,a|a⟩|⟨a,_⟩)
     ·exact .inr ⟨rfl,a⟩
     ·exact .inl a
     ·exact(a rfl).elim
    ·rintro(a|⟨_,a⟩)
     ·exact .inl ⟨rfl,.inr a⟩
     ·exact .inl ⟨rfl,.inl a⟩
   ·constructor
    ·rintro(⟨a,_⟩|⟨_,a⟩)
     ·exact(hij a).elim
     ·exact .inl a
    ·rintro(a|⟨a,_⟩)
     ·exact .inr ⟨hij,a⟩
     ·exact(hij a).elim
 ·have g:Yu A k m=A:=by unfold Yu;rw[zB h0]
  have d:Yb A k m=[]:=by unfold Yb;rw[zB h0]
  rw[g,d];exact⟨⟨h,Kp.refl A,rfl⟩,rfl,sL,by simp,by simp,by simp⟩
theorem DA {xs:List Int}(h:kc c ss xs):iB c ss xs=0:=by
 unfold iB;have a:xs.any (λx=>(dY c ss x).isNone)=false:=by
  rw[l6];intro x hx;rw[h.1 x hx];simp
 have b:xs.any (λx=>dY c ss x==some false)=false:=by
  rw[l6];intro x hx;rw[h.1 x hx];simp
 rw[a,b,zJ h.2];rfl
theorem Hv (h:GA A)(hk:Cl A k c ss)(xs:List Int):QJ A (k:Int) xs=iB c ss xs:=by
 unfold QJ;rw[U6.2 ⟨k,rfl,hk.lt⟩,zC rfl,dE,hk.1,hk.2]
theorem Bs (h:GA A){k:Int}{xs:List Int}(h0:QJ A k xs=0):∃(j:Nat) (c:bZ) (ss:List cF),k=j/\Cl A j c ss/\kc c ss xs:=by
 have a:A.ck k=true:=by
  unfold QJ at h0;split at h0
  ·assumption
  ·cases h0
 obtain⟨j,rfl,d⟩:=U6.1 a;obtain⟨c,ss,t,b,e⟩:=h.cl d;rw[Hv h b]at h0;exact⟨j,c,ss,rfl,b,Fx h0⟩
theorem BU (h:GA A){k:Int}{xs:List Int}(hd:QJ A k xs=0->∀x∈xs,¬gT A k.toNat x):Ob A (Zt A k xs)/\(Zt A k xs).cM=A.cM ∧
 (QJ A k xs=0->∀j y,fM (Zt A k xs) j y↔fM A j y/\¬(j=k.toNat/\y∈xs))/\(QJ A k xs≠0->Zt A k xs=A):=by
 by_cases h0:QJ A k xs=0
 ·obtain⟨j,c,g,rfl,e,D⟩:=Bs h h0;obtain⟨w,C,u⟩:=Eh xs (h.cE j c g e) D;have p:=h.kO e w C λt s x a=>(u x).2 ⟨h.lZ j c g t e s x a,λB=>hd h0 x B ⟨t,by rw[dE];exact s,a⟩⟩;have d:=UK e (xs.foldl (fC c) g);have r:Zt A (j:Int) xs=swp {A with cE:=A.cE.set j (xs.foldl (fC c) g)} j c (xs.foldl (fC c) g):=by
   unfold Zt swp;rw[zC h0,dE,e.1,e.2];simp only[m9]
  have b:=p.qd d;rw[r];refine⟨⟨p.swp d,(Kp.aF rfl rfl rfl rfl:Kp A {A with cE:=A.cE.set j (xs.foldl (fC c) g)}).trans (p.zx d),b.runs⟩,b.cM,λ_ i y=>?_,λz=>(z h0).elim⟩;rw[p.Ab d,xE e,u,dE];by_cases hij:i=j
  ·subst hij;rw[KO e];constructor
   ·rintro(⟨_,a,hy⟩|⟨a,_⟩)
    ·exact⟨a,λm=>hy m.2⟩
    ·exact(a rfl).elim
   ·rintro⟨a,hy⟩;exact .inl ⟨rfl,a,λm=>hy ⟨rfl,m⟩⟩
  ·constructor
   ·rintro(⟨a,_⟩|⟨_,a⟩)
    ·exact(hij a).elim
    ·exact⟨a,λm=>hij m.1⟩
   ·rintro⟨a,_⟩;exact .inr ⟨hij,a⟩
 ·have r:Zt A k xs=A:=by unfold Zt;rw[zB h0]
  rw[r];exact⟨⟨h,Kp.refl A,rfl⟩,rfl,λa=>(h0 a).elim,λ_=>rfl⟩
theorem GA.jQ (h:GA A){k:Nat}{t':gC}(h1:t'.bs.flatten.Nodup)(h2:∀x∈t'.bs.flatten,fM A k x)(h3:∀c,A.tb[k]?=some c->∀xs∈t'.bs,xs.length=c.batch):GA {A with cM:=A.cM.set k t'}:=by
 have get:∀{j t},(A.cM.set k t')[j]?=some t->(j=k/\t=t')\/(j≠k/\A.cM[j]?=some t):=by
  intro j t a;by_cases hjk:j=k
  ·subst hjk;have g:j<A.cM.length:=by have:=(cW.1 a).1;simpa using this
   rw[zL g]at a;exact .inl ⟨rfl,(Option.some.inj a).symm⟩
  ·rw[zk (Ne.symm hjk)]at a;exact .inr ⟨hjk,a⟩
 refine⟨h.pg.same rfl rfl rfl rfl,h.tb,h.lc,by simp[h.lt],h.cE,h.one,h.ow,h.jI,h.rz,h.gO,h.j9,λj t a=>?_,λj c e t b a x d=>?_,λj c t b a=>?_⟩
 ·rcases get a with⟨rfl,rfl⟩|⟨_,a⟩
  ·exact h1
  ·exact h.pc j t a
 ·rcases get a with⟨rfl,rfl⟩|⟨_,a⟩
  ·exact(KO b).1 (h2 x d)
  ·exact h.lZ j c e t b a x d
 ·rcases get a with⟨rfl,rfl⟩|⟨_,a⟩
  ·exact h3 c b
  ·exact h.ot j c t b a
theorem yw {t':gC}{j:Nat}{x:Int}(hk:k<A.cM.length):gT {A with cM:=A.cM.set k t'} j x↔(j=k/\x∈t'.bs.flatten)\/(j≠k/\gT A j x):=by
 by_cases hjk:j=k
 ·subst hjk;have a:(A.cM.set j t')[j]?=some t':=zL hk;constructor
  ·rintro⟨t,e,hx⟩;have e:(A.cM.set j t')[j]?=some t:=e;rw[a]at e;cases e;exact .inl ⟨rfl,hx⟩
  ·rintro(⟨_,hx⟩|⟨hx,_⟩)
   ·exact⟨_,a,hx⟩
   ·exact(hx rfl).elim
 ·have a:(A.cM.set k t')[j]?=A.cM[j]? := zk (Ne.symm hjk);constructor
  ·rintro⟨t,e,hx⟩;have e:(A.cM.set k t')[j]?=some t:=e;rw[a]at e;exact .inr ⟨hjk,t,e,hx⟩
  ·rintro(⟨hx,_⟩|⟨_,t,e,hx⟩)
   ·exact(hjk hx).elim
   ·exact⟨t,a.trans e,hx⟩
theorem Hk {t:gC}(ht:A.cM[k]?=some t){x:Int}:gT A k x↔x∈t.bs.flatten:=by
 constructor
 ·rintro⟨t',e,hx⟩;rw[ht]at e;cases e;exact hx
 ·intro hx;exact⟨t,ht,hx⟩
theorem Cq (h:GA A)(k:Int):Ob A (Zv A k)/\(∀j y,fM (Zv A k) j y↔fM A j y)/\(∀x∈Yq A k,gT A k.toNat x)/\(Yq A k).Nodup/\(Yq A k≠[]->∃j:Nat,k=j/\j<A.tb.length) ∧
 ∀j y,gT (Zv A k) j y↔gT A j y/\¬(j=k.toNat/\y∈Yq A k):=by
 by_cases h0:ZW A k=0
 ·have p:A.ck k=true:=by
   unfold ZW at h0;split at h0
   ·assumption
   ·cases h0
  obtain⟨j,rfl,z⟩:=U6.1 p;obtain⟨c,G,t,E,g⟩:=h.cl z;have hne:t.bs≠[]:=by
   intro e;unfold ZW at h0;rw[p,zC rfl,dE,g]at h0;simp[e]at h0
  have D:Zv A (j:Int) = {A with cM:=A.cM.set j t.rem}:=by unfold Zv;rw[zC h0,dE,KJ g]
  have u:Yq A (j:Int)=t.bs.getLast?.getD []:=by unfold Yq;rw[zC h0,dE,g]
  have C:t.bs=t.bs.dropLast++[t.bs.getLast hne]:=(List.dropLast_concat_getLast hne).symm;have F:Yq A (j:Int)=t.bs.getLast hne:=by rw[u,List.getLast?_eq_some_getLast hne];rfl
  have d:t.bs.flatten=t.bs.dropLast.flatten++t.bs.getLast hne:=by
   conv=>lhs;rw[C]
   simp
  have r:=h.pc j t g;rw[d]at r;have b:=nK.1 r;have m:t.rem.bs=t.bs.dropLast:=rfl;rw[D,F];refine⟨⟨h.jQ (by rw[m];exact b.1) (λx a=>(KO E).2 (h.lZ j c G t E g x (by rw[d];exact ky _ a))) λH w J B=>h.ot j H t w g J ((List.dropLast_sublist _).subset B),Kp.aF rfl rfl rfl rfl,rfl⟩,λ_ _=>Iff.rfl,λx a=>?_,b.2.1,λ_=>⟨j,rfl,z⟩,λi y=>?_⟩
  ·rw[dE,Hk g,d];exact nR _ a
  ·rw[yw (by rw[h.lt];exact z),m,dE];by_cases hij:i=j
   ·subst hij;rw[Hk g,d,zK];constructor
    ·rintro(⟨_,a⟩|⟨a,_⟩)
     ·exact⟨.inl a,λs=>b.2.2 y a y s.2 rfl⟩
     ·exact(a rfl).elim
    ·rintro⟨a|a,s⟩
     ·exact .inl ⟨rfl,a⟩
     ·exact(s ⟨rfl,a⟩).elim
   ·constructor
    ·rintro(⟨a,_⟩|⟨_,a⟩)
     ·exact(hij a).elim
     ·exact⟨a,λs=>hij s.1⟩
    ·rintro⟨a,_⟩;exact .inr ⟨hij,a⟩
 ·have D:Zv A k=A:=by unfold Zv;rw[zB h0]
  have u:Yq A k=[]:=by unfold Yq;rw[zB h0]
  rw[D,u];exact⟨⟨h,Kp.refl A,rfl⟩,λ_ _=>Iff.rfl,by simp,sL,by simp,by simp⟩
theorem Jo (h:GA A)(k:Int){xs:List Int}(hn:xs.Nodup)(hd:∀x∈xs,¬gT A k.toNat x):Ob A (QR A k xs)/\(∀j y,fM (QR A k xs) j y↔fM A j y) ∧
 (KY A k xs=true->(∃j:Nat,k=j/\j<A.tb.length)/\(∀x∈xs,fM A k.toNat x)/\∀j y,gT (QR A k xs) j y↔gT A j y\/(j=k.toNat/\y∈xs))/\(KY A k xs=false->QR A k xs=A):=by
 by_cases h0:KY A k xs=true
 ·have C:U2 A k xs=0:=by
   unfold KY at h0;simp only[zF,zU]at h0;exact h0.1
  have z:A.ck k=true:=by
   unfold U2 at C;split at C
   ·assumption
   ·cases C
  obtain⟨j,rfl,E⟩:=U6.1 z;obtain⟨c,F,t,s,u⟩:=h.cl E;have g:=C;unfold U2 at g;rw[z,zC rfl,dE,s.1,s.2]at g;simp only at g;have p:xs.length=c.batch:=by
   apply Classical.byContradiction;intro d;rw[zB d]at g;cases g
  rw[zC p]at g;have w:∀x∈xs,fM A j x:=by
   intro x d;split at g
   ·rename_i B;rw[j5]at B;rw[KO s];simpa[Tk]using B x d
   ·cases g
  have D:QR A (j:Int) xs = {A with cM:=A.cM.set j {t with bs:=t.bs++[xs]}}:=by unfold QR;rw[zC h0,dE,KJ u]
  have r:(t.bs++[xs]).flatten=t.bs.flatten++xs:=by simp
  rw[D];refine⟨⟨h.jQ ?_ ?_ ?_,Kp.aF rfl rfl rfl rfl,rfl⟩,λ_ _=>Iff.rfl,λ_=>⟨⟨j,rfl,E⟩,by rw[dE];exact w,λi y=>?_⟩,λH=>by rw[H]at h0;cases h0⟩
  ·show(t.bs++[xs]).flatten.Nodup;rw[r,nK];exact⟨h.pc j t u,hn,λa B b G e=>hd b G (by subst e;rw[dE,Hk u];exact B)⟩
  ·intro x d;have d:x∈(t.bs++[xs]).flatten:=d;rw[r,zK]at d;rcases d with d|d
   ·exact(KO s).2 (h.lZ j c F t s u x d)
   ·exact w x d
  ·intro c' hc' ys m;have m:ys∈t.bs++[xs]:=m;rcases zK.1 m with m|m
   ·exact h.ot j c' t hc' u ys m
   ·simp only[zN]at m;rw[s.1]at hc';cases hc';rw[m];exact p
  ·rw[yw (by rw[h.lt];exact E),dE];show(i=j/\y∈(t.bs++[xs]).flatten)\/_↔_;rw[r,zK];by_cases hij:i=j
   ·subst hij;rw[Hk u];constructor
    ·rintro(⟨_,d|d⟩|⟨d,_⟩)
     ·exact .inl d
     ·exact .inr ⟨rfl,d⟩
     ·exact(d rfl).elim
    ·rintro(d|⟨_,d⟩)
     ·exact .inl ⟨rfl,.inl d⟩
     ·exact .inl ⟨rfl,.inr d⟩
   ·constructor
    ·rintro(⟨d,_⟩|⟨_,d⟩)
     ·exact(hij d).elim
     ·exact .inl d
    ·rintro(d|⟨d,_⟩)
     ·exact .inr ⟨hij,d⟩
     ·exact(hij d).elim
 ·have D:QR A k xs=A:=by unfold QR;rw[zB h0]
  rw[D];exact⟨⟨h,Kp.refl A,rfl⟩,λ_ _=>Iff.rfl,λd=>(h0 d).elim,λ_=>rfl⟩
end Go.Ar
namespace Go.Ar
open Go.Bu (Zb Qz Y8 pn KV dC take Q9 Ks Bounded full can Yt Us Zw QB ZE Q5 QC ZZ VR UL k5)
variable {A:AR}{sp:Sp}{k:Nat}{c:bZ}{ss:List cF}
structure Ow (A:AR) (sp:Sp):Prop where
 l:sp.st.length=A.n
 own:∀p,A.f p≠0->gf sp.st p≠0
 cl:∀p,A.f p=3->gf sp.st p=1
 le:∀p,gf sp.st p<=2
structure St (A B:AR) (sp sp':Sp):Prop where
 ga:GA B
 ow:Ow B sp'
 n:B.n=A.n
 tb:B.tb=A.tb
 room:B.room=A.room
 same:∀p,A.f p=0->B.f p=0->gf sp'.st p=gf sp.st p
 gone:∀p,A.f p≠0->B.f p=0->gf sp'.st p=0
 new:∀p,A.f p=0->B.f p≠0->gf sp.st p=0/\16<=p
theorem St.refl (h:GA A)(hw:Ow A sp):St A A sp sp:=⟨h,hw,rfl,rfl,rfl,λ_ _ _=>rfl,λp b a=>(b a).elim,λp b a=>(a b).elim⟩
theorem Ow.len {B C:AR}{sp sp':Sp}(h:Ow B sp)(k:Ow C sp')(e:C.n=B.n):sp'.st.length=sp.st.length:=by rw[h.l,k.l,e]
theorem St.trans {B C:AR}{sp' sp'':Sp}(h:St A B sp sp')(k:St B C sp' sp''):St A C sp sp'':=by
 refine⟨k.ga,k.ow,k.n.trans h.n,k.tb.trans h.tb,k.room.trans h.room,λp a b=>?_,λp a b=>?_,λp a b=>?_⟩
 ·by_cases hB:B.f p=0
  ·rw[k.same p hB b,h.same p a hB]
  ·rw[k.gone p hB b,(h.new p a hB).1]
 ·by_cases hB:B.f p=0
  ·rw[k.same p hB b,h.gone p a hB]
  ·exact k.gone p hB b
 ·by_cases hB:B.f p=0
  ·have:=k.new p hB b;rw[h.same p a hB]at this;exact this
  ·exact h.new p a hB
theorem Ow.kp {B:AR}(hw:Ow A sp)(h:Kp A B):Ow B sp:=⟨hw.l.trans h.n.symm,λp a=>hw.own p λe=>a ((h.z p).2 e),λp a=>hw.cl p (h.t p a),hw.le⟩
theorem St.kp {B:AR}(hg:GA B)(hw:Ow A sp)(h:Kp A B):St A B sp sp:=
 ⟨hg,hw.kp h,h.n,h.tb,h.room,λ_ _ _=>rfl,λp b a=>(b ((h.z p).1 a)).elim,λp b a=>(a ((h.z p).2 b)).elim⟩
theorem Ob.st {B:AR}(o:Ob A B)(hw:Ow A sp):St A B sp sp:=St.kp o.ga hw o.kp
theorem GA.grown (h:GA A){B:AR}{sp':Sp}{s size:Nat}(g:Grown A B sp sp' s size):GA B:=by
 have e:∀{j d tt},Cl B j d tt↔Cl A j d tt:=λ{j d tt}=>by unfold Cl;rw[g.tb,g.cE]
 exact⟨g.pg,by rw[g.tb];exact h.tb,by rw[g.cE,g.tb];exact h.lc,by rw[g.cM,g.tb];exact h.lt,λj d tt a=>h.cE j d tt (e.1 a),λj d tt a=>h.one j d tt (e.1 a),λj d tt a p=>by rw[g.ow];exact h.ow j d tt (e.1 a) p,
  λp=>by rw[g.ow,g.runs];exact h.jI p,λp=>by rw[g.ow,g.tb];exact h.rz p,by rw[g.runs];exact h.gO,by rw[g.runs];exact h.j9,by rw[g.cM];exact h.pc,λj d tt t a b=>h.lZ j d tt t (e.1 a) (by rw[←g.cM];exact b),by rw[g.tb,g.cM];exact h.ot⟩
theorem Grown.st (h:GA A)(hw:Ow A sp){B:AR}{sp':Sp}{s size:Nat}(g:Grown A B sp sp' s size):St A B sp sp':=by
 have d:∀p,B.f p≠A.f p->s<=p/\p<s+size:=λp b=>by
  apply Classical.byContradiction;intro hn;exact b (g.o p hn).1
 refine⟨h.grown g,⟨g.l.trans (hw.l.trans g.n.symm),λp b=>?_,λp b=>?_,λp=>?_⟩,g.n,g.tb,g.room,λp j e=>?_,λp j e=>?_,λp j e=>?_⟩
 ·by_cases a:s<=p/\p<s+size
  ·rw[(g.i p a.1 a.2).2];omega
  ·rw[(g.o p a).2];rw[(g.o p a).1]at b;exact hw.own p b
 ·by_cases a:s<=p/\p<s+size
  ·rw[(g.i p a.1 a.2).2]
  ·rw[(g.o p a).2];rw[(g.o p a).1]at b;exact hw.cl p b
 ·by_cases a:s<=p/\p<s+size
  ·rw[(g.i p a.1 a.2).2];omega
  ·rw[(g.o p a).2];exact hw.le p
 ·refine(g.o p λa=>?_).2;rw[(g.i p a.1 a.2).1]at e;omega
 ·have:=d p O;rw[(g.i p this.1 this.2).1]at e;omega
 ·have:=d p O;exact⟨g.un p this.1 this.2,by have:=g.s1;omega⟩
theorem IU {n:Nat}{S:Nat->Bool}(hb:Bounded S n)(hn:n<=1024){j q m a:Nat}(hf:full S j q=true)(hm:m<=2^j)(ha:a<=2^j):Y8 n S m a≠none:=by
 intro h0;have r:S (q*2^j)=true:=Yt.1 hf _ (BZ _ (kE j));obtain⟨i,e⟩:=Us hb r;have g:j<=i:=by
  apply Classical.byContradiction;intro hlt;exact QB e hf rfl (BZ _ (kE j)) O
 have s:=ZE hb (Zw.1 e).1;have d:i<11:=by
  apply Classical.byContradiction;intro hge;have:2^11<=2^i:=om O O;omega
 have p:2^j<=2^i:=om O g;have:=UL h0 i d O O;have b:=(QC hb (k:=i)).2 ⟨_,rfl,e⟩;rw[this]at b;simp at b
theorem yQ (m:Nat):QP m=16\/QP m=32\/QP m=64:=by
 unfold QP;split
 ·exact .inl rfl
 ·split
  ·exact .inr (.inl rfl)
  ·exact .inr (.inr rfl)
theorem Lx {m:Nat}(h:m<=64):m<=QP m:=by
 unfold QP;split
 ·omega
 ·split<;>omega
theorem Dv (h:GA A)(hw:Ow A sp){m a no:Nat}(h1:1<=m)(h2:m<=64)(ha:1<=a/\a<=16) :
 (cZ A sp m a no=(none,A,sp)/\Y8 A.n A.S m a=none/\cY sp (QP (max m a))=none) ∨
 ∃x A1 sp1,cZ A sp m a no=(some x,dP A1 x m no,sp1)/\Y8 A1.n A1.S m a=some x/\(A1=A/\sp1=sp\/Y8 A.n A.S m a=none/\∃s,cY sp (QP (max m a))=some s/\Grown A A1 sp sp1 s (QP (max m a))):=by
 cases ht:Y8 A.n A.S m a with
 | some x=>exact .inr ⟨x,A,sp,by unfold cZ;rw[ht],ht,.inl ⟨rfl,rfl⟩⟩
 | none=>
  cases hg:Uv A sp (QP (max m a))with
  | none=>
   refine .inl ⟨by unfold cZ;rw[ht,hg],rfl,?_⟩;unfold Uv at hg;split at hg
   ·assumption
   ·cases hg
  | some r=>
   obtain⟨A1,sp1⟩:=r;obtain⟨s,u,g⟩:=MO h.pg hw.l (λp b=>Classical.byContradiction λz=>hw.own p z b) (yQ _) hg;have d:Y8 A1.n A1.S m a≠none:=by
    have B:=Lx (m:=max m a) O;obtain⟨_,_,⟨i,y⟩,_⟩:=Uy (by have:=yQ (max m a);omega) u;have key:∃j,QP (max m a)=2^j:=by
     rcases yQ (max m a)with e|e|e
     ·exact⟨4,e⟩
     ·exact⟨5,e⟩
     ·exact⟨6,e⟩
    obtain⟨j,C⟩:=key;refine IU g.pg.jo g.pg.n2 (j:=j) (q:=i) (Yt.2 λp b=>?_) O O;rw[g.pg.fr];rw[ZZ,←C,←y]at b;rw[(g.i p b.1 b.2).1];omega
   obtain⟨x,w⟩:=Option.ne_none_iff_exists'.1 d;exact .inr ⟨x,A1,sp1,by unfold cZ;rw[ht,hg];simp only;rw[w],w,.inr ⟨rfl,s,u,g⟩⟩
theorem FN (h:PG A){m a x:Nat}(hx:Y8 A.n A.S m a=some x):∀p,x<=p->p<x+m->A.S p=true:=λp b d=>(k5 h.jo hx).2 p b d
theorem PR (h:PG A){m a x:Nat}(h1:1<=m)(h4:m<=4)(hx:Y8 A.n A.S m a=some x):x/16=(x+m-1)/16:=by
 obtain⟨j,_,b,_,d,_⟩:=VR hx;obtain⟨q,rfl,g⟩:=(QC h.jo).1 (List.mem_of_head? d)
 match j,b with
 | 0,b=>
  have:m=1:=by omega
  subst this;rfl
 | 1,b=>
  have:m<=2:=by omega
  simp only[Nat.pow_one]at *;omega
 | j+2,b=>
  have e:2^(j+2)=4*2^j:=by rw[Nat.pow_add];omega
  rw[e,←wU,Nat.mul_comm q 4,wU];generalize q*2^j=z;omega
theorem Fb (h:PG A){a m no:Nat}(h1:1<=m)(hn:no≠0)(hS:∀p,a<=p->p<a+m->A.S p=true):Kp A (dP A a m no):=by
 obtain⟨o,d,g,e⟩:=AJ h h1 hn hS;refine⟨rfl,rfl,rfl,e,λp b=>?_⟩;by_cases hin:a<=p/\p<a+m
 ·rw[(d p hin.1 hin.2).1]at b;omega
 ·rw[o.f p hin]at b;exact b
theorem GA.qh (h:GA A)(hk:Cl A k c ss){x:Nat}(hS:∀p,x<=p->p<x+c.aF->A.S p=true)(h1:x/16=(x+c.aF-1)/16) :
 GA {dP A x c.aF (k+1)with cE:=(dP A x c.aF (k+1)).cE.set k (ie c ss x)}/\(∀s∈ss,s.st+c.aF<=x\/x+c.aF<=s.st):=by
 have r:=h.cE k c ss hk;have u:=r.pg;have C:=hk.lt;have D:=h.tb;obtain⟨o,i,pg,F⟩:=AJ h.pg u (no:=k+1) O hS;have m:∀p,x<=p->p<x+c.aF->A.ow p=0:=λp E z=>by
  have B:=(h.pg.fr p).1 (hS p E z);apply Classical.byContradiction;intro hne;have:=(h.pg.us p).2 hne;omega
 have hd:∀s∈ss,s.st+c.aF<=x\/x+c.aF<=s.st:=λs b=>by
  apply Classical.byContradiction;intro hn;have B:=m (max x s.st) O O;have:=(h.used hk b (p:=max x s.st) O O).2;omega
 refine⟨?_,hd⟩;have e:Cl (dP A x c.aF (k+1)) k c ss:=hk;refine⟨pg.same rfl rfl rfl rfl,h.tb,by show(A.cE.set k _).length=_;simp[h.lc];rfl,h.lt,λj d g a=>?_,λj d g a s b=>?_,λj d g a p=>?_,λp=>?_,λp=>?_,h.gO,h.j9,h.pc,λj d g t a w=>?_,h.ot⟩
 ·rcases V7 e a with⟨rfl,rfl,rfl⟩|⟨hne,a⟩
  ·exact CS r hd
  ·exact h.cE j d g a
 ·rcases V7 e a with⟨rfl,rfl,rfl⟩|⟨hne,a⟩
  ·rcases Ve.1 b with rfl|b
   ·exact h1
   ·exact h.one _ _ _ hk s b
  ·exact h.one j d g a s b
 ·show(dP A x c.aF (k+1)).ow p=j+1↔_;by_cases hp:x<=p/\p<x+c.aF
  ·rw[(i p hp.1 hp.2).2];rcases V7 e a with⟨rfl,rfl,rfl⟩|⟨hne,a⟩
   ·exact⟨λ_=>⟨_,Ve.2 (.inl rfl),hp.1,hp.2⟩,λ_=>rfl⟩
   ·rw[←h.ow j d g a p,m p hp.1 hp.2];omega
  ·rw[o.ow p hp];rcases V7 e a with⟨rfl,rfl,rfl⟩|⟨hne,a⟩
   ·rw[h.ow _ _ _ hk p];constructor
    ·rintro⟨s,b,h3⟩;exact⟨s,Ve.2 (.inr b),h3⟩
    ·rintro⟨s,b,h3⟩;rcases Ve.1 b with rfl|b
     ·exact(hp h3).elim
     ·exact⟨s,b,h3⟩
   ·exact h.ow j d g a p
 ·show(dP A x c.aF (k+1)).ow p=41↔mq A.runs p;by_cases hp:x<=p/\p<x+c.aF
  ·rw[(i p hp.1 hp.2).2,←h.jI,m p hp.1 hp.2];omega
  ·rw[o.ow p hp];exact h.jI p
 ·show(dP A x c.aF (k+1)).ow p=41\/(dP A x c.aF (k+1)).ow p<=A.tb.length;by_cases hp:x<=p/\p<x+c.aF
  ·rw[(i p hp.1 hp.2).2];omega
  ·rw[o.ow p hp];exact h.rz p
 ·rcases V7 e a with⟨rfl,rfl,rfl⟩|⟨hne,a⟩
  ·intro y hy;exact(Ed r hd).2 (h.lZ _ _ _ t hk w y hy)
  ·exact h.lZ j d g t a w
theorem GA.tH (h:GA A){x m:Nat}(hm:1<=m)(hS:∀p,x<=p->p<x+m->A.S p=true):GA {dP A x m 41 with runs:=A.runs++[(x,m)]}:=by
 have z:=h.tb;obtain⟨o,e,pg,B⟩:=AJ h.pg hm (no:=41) O hS;have i:∀p,x<=p->p<x+m->A.ow p=0:=λp w y=>by
  have u:=(h.pg.fr p).1 (hS p w y);apply Classical.byContradiction;intro hne;have:=(h.pg.us p).2 hne;omega
 refine⟨pg.same rfl rfl rfl rfl,h.tb,h.lc,h.lt,h.cE,h.one,λj d tt b p=>?_,λp=>?_,λp=>?_,λr a=>?_,?_,h.pc,h.lZ,h.ot⟩
 ·have b:Cl A j d tt:=b;have:=b.lt;show(dP A x m 41).ow p=j+1↔_;by_cases hp:x<=p/\p<x+m
  ·rw[(e p hp.1 hp.2).2,←h.ow j d tt b p,i p hp.1 hp.2];omega
  ·rw[o.ow p hp];exact h.ow j d tt b p
 ·show(dP A x m 41).ow p=41↔mq (A.runs++[(x,m)]) p;by_cases hp:x<=p/\p<x+m
  ·rw[(e p hp.1 hp.2).2];exact⟨λ_=>⟨(x,m),by simp,hp⟩,λ_=>rfl⟩
  ·rw[o.ow p hp,h.jI];constructor
   ·rintro⟨r,a,h3⟩;exact⟨r,by simp[a],h3⟩
   ·rintro⟨r,a,h3⟩;rcases zK.1 a with a|a
    ·exact⟨r,a,h3⟩
    ·simp only[zN]at a;subst a;exact(hp h3).elim
 ·show(dP A x m 41).ow p=41\/(dP A x m 41).ow p<=A.tb.length;by_cases hp:x<=p/\p<x+m
  ·rw[(e p hp.1 hp.2).2];omega
  ·rw[o.ow p hp];exact h.rz p
 ·rcases zK.1 a with a|a
  ·exact h.gO r a
  ·simp only[zN]at a;subst a;exact hm
 ·refine px.2 ⟨h.j9,by simp,λr a s g=>?_⟩;simp only[zN]at g;subst g;apply Classical.byContradiction;intro hn;simp only at hn;have:=h.gO r a;have u:=i (max x r.1) O O;have:=(h.jm a (p:=max x r.1) O O).2;omega
theorem L1 {l:List (Nat×Nat)}{x m:Nat}(h:∀r∈l,r.1≠x):cA.mset2 l x m=l++[(x,m)]:=by
 unfold cA.mset2;rw[zB];simp only[ko,zT,not_exists,not_and];exact h
theorem CY (h:GA A)(hw:Ow A sp)(k:Int) :
 ((cL A sp k=(A,sp))/\KA A sp k≠0/\(A.ck k=true->KA A sp k=6)) ∨
 ∃(j:Nat) (c:bZ) (ss:List cF) (x:Nat) (A1:AR) (sp1:Sp),k=j/\Cl A j c ss/\Cl A1 j c ss/\KA A sp k=0/\cL A sp k=({dP A1 x c.aF (j+1)with cE:=(dP A1 x c.aF (j+1)).cE.set j (ie c ss x)},sp1) ∧
  St A A1 sp sp1/\A1.runs=A.runs/\A1.cM=A.cM/\A1.cE=A.cE/\Y8 A1.n A1.S c.aF 1=some x/\(∀s∈ss,s.st+c.aF<=x\/x+c.aF<=s.st)/\St A (cL A sp k).1 sp (cL A sp k).2:=by
 by_cases hck:A.ck k=true
 ·obtain⟨j,rfl,F⟩:=U6.1 hck;obtain⟨c,ss,t,b,H⟩:=h.cl F;have G:=h.cE j c ss b;have y:=G.ok;unfold bZ.ok at y;have D:=b.lt;rcases Dv h hw (m:=c.aF) (a:=1) (no:=j+1) O O O with⟨hg,_⟩|⟨x,A1,sp1,hg,htk,hor⟩
  ·left;have w:KA A sp (j:Int)=6:=by unfold KA;rw[hck,zC rfl,dE,b.1,b.2];simp only;rw[hg]
   have C:cL A sp (j:Int)=(A,sp):=by unfold cL;rw[hck,zC rfl,dE,b.1,b.2];simp only;rw[hg]
   rw[C,w];exact⟨rfl,by simp,λ_=>rfl⟩
  ·right;have w:KA A sp (j:Int)=HZ c ss x:=by unfold KA;rw[hck,zC rfl,dE,b.1,b.2];simp only;rw[hg]
   have u:GA A1:=by
    rcases hor with⟨rfl,rfl⟩|⟨_,s,_,g⟩
    ·exact h
    ·exact h.grown g
   have d:St A A1 sp sp1:=by
    rcases hor with⟨rfl,rfl⟩|⟨_,s,_,g⟩
    ·exact St.refl h hw
    ·exact g.st h hw
   have e:A1.runs=A.runs/\A1.cM=A.cM/\A1.cE=A.cE:=by
    rcases hor with⟨rfl,rfl⟩|⟨_,s,_,g⟩
    ·exact⟨rfl,rfl,rfl⟩
    ·exact⟨g.runs,g.cM,g.cE⟩
   have p:Cl A1 j c ss:=⟨by rw[d.tb];exact b.1,by rw[e.2.2];exact b.2⟩;have B:=FN u.pg htk;obtain⟨E,hd⟩:=u.qh p B (PR u.pg O O htk);have z:=Of hd;have r:cL A sp (j:Int)=({dP A1 x c.aF (j+1)with cE:=(dP A1 x c.aF (j+1)).cE.set j (ie c ss x)},sp1):=by
    unfold cL;rw[hck,zC rfl,dE,b.1,b.2];simp only;rw[hg];simp only;rw[zC z]
   refine⟨j,c,ss,x,A1,sp1,rfl,b,p,by rw[w];exact z,r,d,e.1,e.2.1,e.2.2,htk,hd,?_⟩;rw[r];have kp:=Fb u.pg (no:=j+1) O O B;exact d.trans (St.kp E d.ow (kp.trans (Kp.aF rfl rfl rfl rfl)))
 ·left;have i:A.ck k=false:=by simpa using hck
  unfold cL KA;rw[i];exact⟨rfl,by simp,λh=>by cases h⟩
theorem Oz (h:GA A)(hw:Ow A sp)(k:Int):St A (cL A sp k).1 sp (cL A sp k).2/\(cL A sp k).1.runs=A.runs/\(cL A sp k).1.cM=A.cM/\(∀j y,fM (cL A sp k).1 j y↔fM A j y)/\(KA A sp k≠0->cL A sp k=(A,sp)):=by
 rcases CY h hw k with⟨e,_⟩|⟨j,c,ss,x,A1,sp1,rfl,hk,hk1,hE,e,hst,r1,r2,r3,_,hd,hS⟩
 ·rw[e];exact⟨St.refl h hw,rfl,rfl,λ_ _=>Iff.rfl,λ_=>rfl⟩
 ·refine⟨hS,by rw[e];exact r1,by rw[e];exact r2,λi y=>?_,λd=>(d hE).elim⟩;rw[e];have b:Cl (dP A1 x c.aF (j+1)) j c ss:=hk1;rw[xE b,Ed (h.cE j c ss hk) hd];have e2:fM (dP A1 x c.aF (j+1)) i y↔fM A i y:=by
   have:(dP A1 x c.aF (j+1)).tb=A.tb/\(dP A1 x c.aF (j+1)).cE=A.cE:=⟨hst.tb,r3⟩;unfold fM Cl;rw[this.1,this.2]
  rw[e2];by_cases hij:i=j
  ·subst hij;rw[KO hk];exact⟨λa=>by rcases a with⟨_,a⟩|⟨a,_⟩;exact a;exact(a rfl).elim,λa=>.inl ⟨rfl,a⟩⟩
  ·exact⟨λa=>by rcases a with⟨a,_⟩|⟨_,a⟩;exact(hij a).elim;exact a,λa=>.inr ⟨hij,a⟩⟩
theorem OZ {m a:Int}(h:Q4 m a=true):∃x y:Nat,m=x/\a=y/\1<=x/\x<=64/\(y=1\/y=2\/y=4\/y=8\/y=16):=by
 unfold Q4 at h;simp only[zF,zU,nb,zT]at h;exact⟨m.toNat,a.toNat,O,O,O,O,O⟩
theorem PE (h:GA A)(hw:Ow A sp)(m a:Int) :
 (cA A sp m a=(A,sp)/\Qi A sp m a≠0/\(Q4 m a=true->Qi A sp m a=6/\Y8 A.n A.S m.toNat a.toNat=none/\cY sp (QP (max m.toNat a.toNat))=none)) ∨
 ∃(x:Nat) (A1:AR) (sp1:Sp),Q4 m a=true/\Qi A sp m a=0/\ZU A sp m a=x/\cA A sp m a=({dP A1 x m.toNat 41 with runs:=A.runs++[(x,m.toNat)]},sp1) ∧
  Y8 A1.n A1.S m.toNat a.toNat=some x/\(A1=A/\sp1=sp\/Y8 A.n A.S m.toNat a.toNat=none/\∃s,cY sp (QP (max m.toNat a.toNat))=some s/\Grown A A1 sp sp1 s (QP (max m.toNat a.toNat))) ∧
  St A (cA A sp m a).1 sp (cA A sp m a).2/\(cA A sp m a).1.cM=A.cM/\(∀j y,fM (cA A sp m a).1 j y↔fM A j y):=by
 by_cases hp:Q4 m a=true
 ·obtain⟨b,u,rfl,rfl,M,J,Q⟩:=OZ hp;have F:Qi A sp (b:Int) (u:Int)=if(cZ A sp b u 41).1.isSome then 0 else 6:=by unfold Qi;rw[zC hp,dE,dE]
  have H:ZU A sp (b:Int) (u:Int)=(cZ A sp b u 41).1.getD 0:=by unfold ZU;rw[zC hp,dE,dE]
  rcases Dv h hw (m:=b) (a:=u) (no:=41) M J O with⟨hg,hn1,hn2⟩|⟨x,A1,sp1,hg,htk,hor⟩
  ·left;have L:cA A sp (b:Int) (u:Int)=(A,sp):=by unfold cA;rw[zC hp,dE,dE,hg]
   rw[L,F,hg,dE,dE];exact⟨rfl,by simp,λ_=>⟨rfl,hn1,hn2⟩⟩
  ·right;have z:GA A1:=by
    rcases hor with⟨rfl,rfl⟩|⟨_,s,_,g⟩
    ·exact h
    ·exact h.grown g
   have w:St A A1 sp sp1:=by
    rcases hor with⟨rfl,rfl⟩|⟨_,s,_,g⟩
    ·exact St.refl h hw
    ·exact g.st h hw
   have d:A1.runs=A.runs/\A1.cM=A.cM/\A1.cE=A.cE:=by
    rcases hor with⟨rfl,rfl⟩|⟨_,s,_,g⟩
    ·exact⟨rfl,rfl,rfl⟩
    ·exact⟨g.runs,g.cM,g.cE⟩
   have E:=FN z.pg htk;have B:∀r∈A.runs,r.1≠x:=λr K e=>by
    have C:r∈A1.runs:=by rw[d.1];exact K
    have:=z.gO r C;have R:=(z.jm C (p:=x) O O).1;have P:=(z.pg.fr x).1 (E x O O);omega
   have i:cA A sp (b:Int) (u:Int)=({dP A1 x b 41 with runs:=A.runs++[(x,b)]},sp1):=by
    unfold cA;rw[zC hp,dE,dE,hg];show({dP A1 x b 41 with runs:=cA.mset2 A1.runs x b},sp1)=_;rw[d.1,L1 B]
   have G:=z.tH O E;rw[d.1]at G;have kp:=Fb z.pg (no:=41) O O E;refine⟨x,A1,sp1,hp,by rw[F,hg];rfl,by rw[H,hg];rfl,by rw[dE];exact i,by rw[dE,dE];exact htk,by rw[dE,dE];exact hor,?_,by rw[i];exact d.2.1,λj y=>?_⟩
   ·rw[i];exact w.trans (St.kp G w.ow (kp.trans (Kp.aF rfl rfl rfl rfl)))
   ·rw[i];have e1:({dP A1 x b 41 with runs:=A.runs++[(x,b)]}:AR).tb=A.tb:=w.tb;have e2:({dP A1 x b 41 with runs:=A.runs++[(x,b)]}:AR).cE=A.cE:=d.2.2;unfold fM Cl;rw[e1,e2]
 ·left;have D:Q4 m a=false:=by simpa using hp
  unfold cA Qi;rw[D];exact⟨rfl,by simp,λN=>by cases N⟩
theorem P4 {x:Int}{r:Nat×Nat}(h:pE A x=some r):r∈A.runs/\x=(r.1:Int):=by
 unfold pE at h;exact⟨sT h,by have:=tv h;simpa using Eq.symm (by simpa using this)⟩
theorem Mb (h:GA A)(x:Int):(Kp A (Qq A x)/\GA (Qq A x))/\(Qq A x).cM=A.cM/\(∀j y,fM (Qq A x) j y↔fM A j y)/\(KG A x≠0->Qq A x=A) ∧
 (KG A x=0->∃r∈A.runs,x=(r.1:Int)/\(Qq A x).runs=A.runs.filter λq=>!(q==r)):=by
 cases hr:pE A x with
 | none=>
  have e:Qq A x=A:=by unfold Qq;rw[hr]
  have D:KG A x=8:=by unfold KG;rw[hr];rfl
  rw[e,D];exact⟨⟨Kp.refl A,h⟩,rfl,λ_ _=>Iff.rfl,λ_=>rfl,λi=>by cases i⟩
 | some r=>
  obtain⟨b,i⟩:=P4 hr;have u:=h.gO r b;have w:A.runs.filter (λq=>!((q.1:Int)==x))=A.runs.filter λq=>!(q==r):=by
   apply vW;intro q g;have:((q.1:Int)==x)=(q==r):=by
    rw[l3];simp only[zT];constructor
    ·intro e;have G:=h.gO q g;exact h.gQ g b (x:=q.1) O O O O
    ·rintro rfl;exact i.symm
   rw[this]
  have e:Qq A x=VB {A with runs:=A.runs.filter λq=>!(q==r)} r:=by unfold Qq;rw[hr];simp only;rw[w]
  have D:KG A x=0:=by unfold KG;rw[hr];rfl
  obtain⟨a,m⟩:=r;obtain⟨o,B,pg,J⟩:=FG (A:={A with runs:=A.runs.filter λq=>!(q==(a,m))}) (h.pg.same rfl rfl rfl rfl) u (λp F E=>(h.jm b F E).1);have own:∀p,a<=p->p<a+m->A.ow p=41:=λp F E=>(h.jm b F E).2;have H:=h.tb;rw[e,D];refine⟨⟨⟨rfl,rfl,rfl,J,λp C=>?_⟩,?_⟩,rfl,λ_ _=>Iff.rfl,λi=>(i rfl).elim,λ_=>⟨_,b,i,rfl⟩⟩
  ·by_cases hin:a<=p/\p<a+m
   ·rw[(B p hin.1 hin.2).1]at C;omega
   ·rw[o.f p hin]at C;exact C
  ·refine⟨pg,h.tb,h.lc,h.lt,h.cE,h.one,λj d tt s p=>?_,λp=>?_,λp=>?_,λq g=>h.gO q (zI.1 g).1,h.j9.filter _,h.pc,h.lZ,h.ot⟩
   ·have s:Cl A j d tt:=s;have:=s.lt;by_cases hin:a<=p/\p<a+m
    ·rw[(B p hin.1 hin.2).2,←h.ow j d tt s p,own p hin.1 hin.2];omega
    ·rw[o.ow p hin];exact h.ow j d tt s p
   ·show _↔mq (A.runs.filter λq=>!(q==(a,m))) p;by_cases hin:a<=p/\p<a+m
    ·rw[(B p hin.1 hin.2).2];constructor
     ·intro i;omega
     ·rintro⟨q,g,q1,q2⟩;have z:=zI.1 g;have:=h.gQ z.1 b q1 q2 hin.1 hin.2;subst this;simp at z
    ·rw[o.ow p hin];show A.ow p=41↔_;rw[h.jI];constructor
     ·rintro⟨q,g,q1⟩;refine⟨q,zI.2 ⟨g,?_⟩,q1⟩;have:q≠(a,m):=by rintro rfl;exact hin q1
      simpa using this
     ·rintro⟨q,g,q1⟩;exact⟨q,(zI.1 g).1,q1⟩
   ·by_cases hin:a<=p/\p<a+m
    ·rw[(B p hin.1 hin.2).2];omega
    ·rw[o.ow p hin];exact h.rz p
theorem AM (k:Nat):∀(outs:List (List Int)) {A:AR},GA A->outs.flatten.Nodup->(∀x∈outs.flatten,fM A k x/\¬gT A k x) →
 Ob A (outs.foldl (λA' xs=>Zt A' (k:Int) xs) A)/\(outs.foldl (λA' xs=>Zt A' (k:Int) xs) A).cM=A.cM/\∀j y,fM (outs.foldl (λA' xs=>Zt A' (k:Int) xs) A) j y↔fM A j y/\¬(j=k/\y∈outs.flatten)
 | [],A,h,_,_=>⟨⟨h,Kp.refl A,rfl⟩,rfl,by simp⟩
 | xs::outs,A,h,hn,ht=>by
  rw[wY]at hn ht;have hn':=nK.1 hn;have p:∀x∈xs,fM A k x/\¬gT A k x:=λx i=>ht x (ky _ i);rw[qk];cases xs with
  | nil=>
   have s:Zt A (k:Int) []=A\/QJ A (k:Int) []=0:=by
    by_cases w:QJ A (k:Int) []=0
    ·exact .inr w
    ·exact .inl (by unfold Zt;rw[zB w])
   obtain⟨o,e,t,_⟩:=BU h (k:=(k:Int)) (xs:=[]) (λ_=>by simp);have u:∀j y,fM (Zt A (k:Int) []) j y↔fM A j y:=λj y=>by
    rcases s with s|s
    ·rw[s]
    ·rw[t s];simp
   have m:∀j y,gT (Zt A (k:Int) []) j y↔gT A j y:=λj y=>by unfold gT;rw[e]
   obtain⟨o2,e2,z⟩:=AM k outs o.ga hn'.2.1 λx i=>by rw[u,m];exact ht x (nR _ i)
   exact⟨⟨o2.ga,o.kp.trans o2.kp,o2.runs.trans o.runs⟩,e2.trans e,λj y=>by rw[z,u];simp⟩
  | cons x0 xs=>
   obtain⟨c,C,B,_⟩:=(p x0 aA).1;have w:QJ A (k:Int) (x0::xs)=0:=by
    rw[Hv h B];exact DA ⟨λx i=>(KO B).1 (p x i).1,hn'.1⟩
   obtain⟨o,e,t,_⟩:=BU h (k:=(k:Int)) (xs:=x0::xs) (λ_ x i=>by rw[dE];exact(p x i).2);have u:=t w;have m:∀j y,gT (Zt A (k:Int) (x0::xs)) j y↔gT A j y:=λj y=>by unfold gT;rw[e]
   obtain⟨o2,e2,z⟩:=AM k outs o.ga hn'.2.1 λx i=>by
    rw[u,m];have:=ht x (nR _ i);exact⟨⟨this.1,λg=>hn'.2.2 x g.2 x i rfl⟩,this.2⟩
   refine⟨⟨o2.ga,o.kp.trans o2.kp,o2.runs.trans o.runs⟩,e2.trans e,λj y=>?_⟩;rw[z,u,dE,wY,zK];constructor
   ·rintro⟨⟨a,b⟩,d⟩;refine⟨a,λ⟨r,g⟩=>?_⟩;rcases g with g|g
    ·exact b ⟨r,g⟩
    ·exact d ⟨r,g⟩
   ·rintro⟨a,b⟩;exact⟨⟨a,λ⟨r,g⟩=>b ⟨r,.inl g⟩⟩,λ⟨r,g⟩=>b ⟨r,.inr g⟩⟩
structure sG (A B:AR):Prop where
 ob:Ob A B
 sub:∀j y,gT B j y->gT A j y
 tk:∀j y,fM B j y↔fM A j y/\(gT A j y->gT B j y)
theorem sG.trans {B C:AR}(h:sG A B)(k:sG B C):sG A C:=
 ⟨⟨k.ob.ga,h.ob.kp.trans k.ob.kp,k.ob.runs.trans h.ob.runs⟩,λj y g=>h.sub j y (k.sub j y g),λj y=>by
  rw[k.tk,h.tk];exact⟨λ⟨⟨a,b⟩,d⟩=>⟨a,λe=>d (b e)⟩,λ⟨a,b⟩=>⟨⟨a,λe=>k.sub j y (b e)⟩,λe=>b (h.sub j y e)⟩⟩⟩
theorem Rj (h:GA A)(hk:k<A.tb.length):sG A (uP A k):=by
 obtain⟨c,F,t,E,m⟩:=h.cl hk;have s:k<A.cM.length:=by rw[h.lt];exact hk
 have e:uP A k=t.out.foldl (λA' w=>Zt A' (k:Int) w) {A with cM:=A.cM.set k t.tick}:=by unfold uP;rw[m]
 have C:t.bs=t.out++t.tick.bs:=(nJ ((t.low+1)/2) t.bs).symm;have i:t.bs.flatten=t.out.flatten++t.tick.bs.flatten:=by conv=>lhs;rw[C];rw[List.flatten_append]
 have r:=h.pc k t m;rw[i]at r;have g:=nK.1 r;have p:∀x∈t.bs.flatten,fM A k x:=λx d=>(KO E).2 (h.lZ k c F t E m x d);have H:GA {A with cM:=A.cM.set k t.tick}:=h.jQ g.2.1 (λx d=>p x (by rw[i];exact nR _ d)) λG z w B=>h.ot k G t z m w (t.oB w B);obtain⟨o,e2,D⟩:=AM k t.out H g.1 λx d=>by
  refine⟨p x (by rw[i];exact ky _ d),?_⟩;rw[yw s];rintro(⟨_,hy⟩|⟨hy,_⟩)
  ·exact g.2.2 x d x hy rfl
  ·exact hy rfl
 rw[←e]at o e2 D;have u:∀j y,gT (uP A k) j y↔(j=k/\y∈t.tick.bs.flatten)\/(j≠k/\gT A j y):=λj y=>by
  rw[←yw s];unfold gT;rw[e2]
 refine⟨⟨o.ga,(Kp.aF rfl rfl rfl rfl:Kp A {A with cM:=A.cM.set k t.tick}).trans o.kp,o.runs⟩,λj y d=>?_,λj y=>?_⟩
 ·rcases(u j y).1 d with⟨rfl,hy⟩|⟨_,hy⟩
  ·rw[Hk m,i];exact nR _ hy
  ·exact hy
 ·rw[D,u];show fM A j y/\_↔_;by_cases hjk:j=k
  ·subst hjk;rw[Hk m,i,zK];constructor
   ·rintro⟨a,b⟩;refine⟨a,λd=>?_⟩;rcases d with d|d
    ·exact(b ⟨rfl,d⟩).elim
    ·exact .inl ⟨rfl,d⟩
   ·rintro⟨a,b⟩;refine⟨a,λ⟨_,d⟩=>?_⟩;rcases b (.inl d)with⟨_,hy⟩|⟨hy,_⟩
    ·exact g.2.2 y d y hy rfl
    ·exact hy rfl
  ·exact⟨λ⟨a,_⟩=>⟨a,λd=>.inr ⟨hjk,d⟩⟩,λ⟨a,_⟩=>⟨a,λ⟨d,_⟩=>hjk d⟩⟩
theorem Ep (h:GA A):∀m,m<=A.tb.length->sG A ((List.range m).foldl uP A)
 | 0,_=>⟨⟨h,Kp.refl A,rfl⟩,λ_ _=>id,λ_ _=>⟨λa=>⟨a,id⟩,λa=>a.1⟩⟩
 | m+1,hm=>by
  have t:=Ep h m O;rw[pU,wH,qk,List.foldl_nil];exact t.trans (Rj t.ob.ga (by rw[t.ob.kp.tb];omega))
theorem N7 (h:GA A):sG A (rO A):=Ep h _ (by rw[h.lt];exact zD _)
end Go.Ar
namespace Go.Ar
open Go.Bu (Zb Qz Y8 pn KV dC take Q9 Ks Bounded)
variable {A:AR}{sp:Sp}{k:Nat}{c:bZ}{ss:List cF}
end Go.Ar
namespace Go.Ar
structure Pc where
 k:Nat
 cls:Int
 addr:Nat
 size:Nat
 eM:Bool
 deriving DecidableEq
structure Wd where
 tb:List bZ
 sp:Sp
 bY:List AR
 held:List Pc
structure Act where
 kd:Int
 ar:Int
 cl:Int
 a:Int
 b:Int
 l:List Int
abbrev Key:=Nat×Int×Nat
def Pc.key (p:Pc):Key:=(p.k,p.cls,p.addr)
def lS (k:Nat)(cls x:Int)(p:Pc):Bool:=p.k==k&&(p.cls==cls&&((p.addr:Int)==x && !p.eM))
def uE (held:List Pc)(k:Nat)(cls x:Int):Option Nat:=held.findIdx? (lS k cls x)
def je (held:List Pc)(k:Nat)(cls:Int)(l:List Int):Bool:=l.all (λx=>(uE held k cls x).isSome)&&decide l.Nodup
def lC (k:Nat)(cls:Int)(held:List Pc)(x:Int):List Pc:=match uE held k cls x with
 | some i=>held.take i++held.drop (i+1)
 | none=>held
def wN (held:List Pc)(k:Nat)(cls:Int)(l:List Int):List Pc:=l.foldl (lC k cls) held
def dW (k:Nat)(cls:Int)(l:List Int)(p:Pc):Bool:=p.k==k&&(p.cls==cls&&l.contains (p.addr:Int))
def Hi (held:List Pc)(k:Nat)(cls:Int)(l:List Int)(m:Bool):List Pc:=held.map λp=>if dW k cls l p then{p with eM:=m}else p
def xO (us:List AR)(held:List Pc):List Pc:=held.filter λp=>!p.eM||(match us[p.k]? with
 | some A=>wZ A (p.addr:Int)
 | none=>false)
def oI (tb:List bZ)(k:Int):Nat:=((tb[k.toNat]?).map (·.size)).getD 0
def Wd.put (W:Wd)(k:Nat)(A:AR)(sp:Sp)(held:List Pc):Wd:={W with sp:=sp,bY:=W.bY.set k A,held:=held}
def Hd (A:AR)(p:Pc):Prop:=(p.cls = -1/\p.eM=false/\∃r∈A.runs,p.addr=r.1*256/\p.size=r.2*256) ∨
 ∃(j:Nat) (c:bZ),p.cls=j/\A.tb[j]?=some c/\p.size=c.size/\fM A j (p.addr:Int)/\(p.eM=true↔gT A j (p.addr:Int))
structure WI (W:Wd):Prop where
 ga:∀(k:Nat) (A:AR),W.bY[k]?=some A->GA A
 ow:∀(k:Nat) (A:AR),W.bY[k]?=some A->Ow A W.sp
 tb:∀(k:Nat) (A:AR),W.bY[k]?=some A->A.tb=W.tb
 low:∀(k:Nat) (A:AR),W.bY[k]?=some A->∀p,p<16->A.f p=0
 own:∀p,gf W.sp.st p≠0->∃(k:Nat) (A:AR),W.bY[k]?=some A/\A.f p≠0
 one:∀p (k l:Nat) (A B:AR),W.bY[k]?=some A->W.bY[l]?=some B->A.f p≠0->B.f p≠0->k=l
 hk:(W.held.map Pc.key).Nodup
 hf:∀p∈W.held,∃A,W.bY[p.k]?=some A/\Hd A p
 ht:∀(k:Nat) (A:AR),W.bY[k]?=some A->∀(j:Nat) (y:Int),fM A j y->∃p∈W.held,p.k=k/\p.cls=j/\(p.addr:Int)=y
 hr:∀(k:Nat) (A:AR),W.bY[k]?=some A->∀r∈A.runs,∃p∈W.held,p.k=k/\p.cls = -1/\p.addr=r.1*256
variable {W:Wd}{k:Nat}{A:AR}
theorem KN {α:Type}{l:List α}{k j:Nat}{x y:α}(h:(l.set k x)[j]?=some y):(j=k/\y=x/\k<l.length)\/(j≠k/\l[j]?=some y):=by
 by_cases hjk:j=k
 ·subst hjk;have a:j<l.length:=by have:=(cW.1 h).1;simpa using this
  rw[zL a]at h;exact .inl ⟨rfl,(Option.some.inj h).symm,a⟩
 ·rw[zk (Ne.symm hjk)]at h;exact .inr ⟨hjk,h⟩
theorem WI.unique (h:WI W){p q:Pc}(hp:p∈W.held)(hq:q∈W.held)(e:p.key=q.key):p=q:=by
 obtain⟨i,d⟩:=zQ hp;obtain⟨j,g⟩:=zQ hq;obtain⟨b,rfl⟩:=cW.1 d;obtain⟨a,rfl⟩:=cW.1 g;have:=mc.1 h.hk;rcases pF i j with hl|hl|hl
 ·exact(this i j (by simpa using b) (by simpa using a) hl (by simpa using e)).elim
 ·subst hl;rfl
 ·exact(this j i (by simpa using a) (by simpa using b) hl (by simpa using e.symm)).elim
theorem WI.step (h:WI W)(hk:W.bY[k]?=some A){B:AR}{sp':Sp}{held':List Pc}(s:St A B W.sp sp')(h1:(held'.map Pc.key).Nodup)(h2:∀p∈held',p.k=k->Hd B p)(h3:∀p,p.k≠k->(p∈held'↔p∈W.held))
 (h4:∀(j:Nat) (y:Int),fM B j y->∃p∈held',p.k=k/\p.cls=j/\(p.addr:Int)=y) (h5:∀r∈B.runs,∃p∈held',p.k=k/\p.cls = -1/\p.addr=r.1*256):WI (W.put k B sp' held'):=by
 have F:=(cW.1 hk).1;have m:(W.bY.set k B)[k]?=some B:=zL F;have G:∀{j:Nat} {C:AR},j≠k->W.bY[j]?=some C->(W.bY.set k B)[j]?=some C:=λa e=>(zk (Ne.symm a)).trans e;have g:∀{j:Nat} {C:AR},j≠k->W.bY[j]?=some C->∀p,C.f p≠0->A.f p=0/\B.f p=0/\gf sp'.st p=gf W.sp.st p:=by
  intro j C a e p b;have u:A.f p=0:=Classical.byContradiction λx=>a (h.one p j k C A e hk b x);have w:B.f p=0:=Classical.byContradiction λx=>by
   have:=(s.new p u x).1;exact(h.ow j C e).own p b this
  exact⟨u,w,s.same p u w⟩
 refine⟨λj C a=>?_,λj C a=>?_,λj C a=>?_,λj C a p b=>?_,λp b=>?_,λp j l C D a J e z=>?_,h1,λp b=>?_,λj C a i y H=>?_,λj C a r hr=>?_⟩
 ·rcases KN a with⟨rfl,rfl,_⟩|⟨_,a⟩
  ·exact s.ga
  ·exact h.ga j C a
 ·rcases KN a with⟨rfl,rfl,_⟩|⟨d,a⟩
  ·exact s.ow
  ·have o:=h.ow j C a;have L:=h.ow k A hk;refine⟨?_,λp b=>?_,λp b=>?_,s.ow.le⟩
   ·show sp'.st.length=C.n;rw[s.ow.l,s.n,←L.l,o.l]
   ·show gf sp'.st p≠0;rw[(g d a p b).2.2];exact o.own p b
   ·show gf sp'.st p=1;rw[(g d a p O).2.2];exact o.cl p b
 ·rcases KN a with⟨rfl,rfl,_⟩|⟨_,a⟩
  ·exact s.tb.trans (h.tb _ A hk)
  ·exact h.tb j C a
 ·rcases KN a with⟨rfl,rfl,_⟩|⟨_,a⟩
  ·apply Classical.byContradiction;intro x;have:=s.new p (h.low _ A hk p b) x;omega
  ·exact h.low j C a p b
 ·have b:gf sp'.st p≠0:=b;by_cases w:B.f p=0
  ·by_cases u:A.f p=0
   ·rw[s.same p u w]at b;obtain⟨j,C,a,e⟩:=h.own p b;have d:j≠k:=by
     rintro rfl;rw[hk]at a;cases a;exact e u
    exact⟨j,C,G d a,e⟩
   ·exact(b (s.gone p u w)).elim
  ·exact⟨k,B,m,w⟩
 ·rcases KN a with⟨rfl,rfl,_⟩|⟨d,hj'⟩
  ·rcases KN J with⟨rfl,rfl,_⟩|⟨hne2,hl'⟩
   ·rfl
   ·exact(e (g hne2 hl' p z).2.1).elim
  ·rcases KN J with⟨rfl,rfl,_⟩|⟨hne2,hl'⟩
   ·exact(z (g d hj' p e).2.1).elim
   ·exact h.one p j l C D hj' hl' e z
 ·by_cases hpk:p.k=k
  ·exact⟨B,by rw[hpk];exact m,h2 p b hpk⟩
  ·obtain⟨C,e,K⟩:=h.hf p ((h3 p hpk).1 b);exact⟨C,G hpk e,K⟩
 ·rcases KN a with⟨rfl,rfl,_⟩|⟨d,a⟩
  ·exact h4 i y H
  ·obtain⟨p,b,e1,e2,E⟩:=h.ht j C a i y H;exact⟨p,(h3 p (by rw[e1];exact d)).2 b,e1,e2,E⟩
 ·rcases KN a with⟨rfl,rfl,_⟩|⟨d,a⟩
  ·exact h5 r hr
  ·obtain⟨p,b,e1,e2,E⟩:=h.hr j C a r hr;exact⟨p,(h3 p (by rw[e1];exact d)).2 b,e1,e2,E⟩
theorem Hd.to {B:AR}{p:Pc}(h:Hd A p)(e1:B.tb=A.tb)(e2:B.runs=A.runs)(e3:∀j y,fM A j y->fM B j y)(e4:∀j y,gT B j y↔gT A j y):Hd B p:=by
 rcases h with⟨h1,h2,r,hr,h3⟩|⟨j,c,h1,h2,h3,h4,h5⟩
 ·exact .inl ⟨h1,h2,r,by rw[e2];exact hr,h3⟩
 ·exact .inr ⟨j,c,h1,by rw[e1];exact h2,h3,e3 _ _ h4,by rw[e4];exact h5⟩
theorem WI.hd (h:WI W)(hk:W.bY[k]?=some A){p:Pc}(hp:p∈W.held)(e:p.k=k):Hd A p:=by
 obtain⟨C,a,b⟩:=h.hf p hp;rw[e,hk]at a;cases a;exact b
theorem WI.lI (h:WI W)(hk:W.bY[k]?=some A){B:AR}{sp':Sp}(s:St A B W.sp sp')(e2:B.runs=A.runs)(e3:∀j y,fM B j y↔fM A j y)(e4:B.cM=A.cM):WI (W.put k B sp' W.held):=
 h.step hk s h.hk (λp a e=>(h.hd hk a e).to s.tb e2 (λj y=>(e3 j y).2) λj y=>by unfold gT;rw[e4]) (λ_ _=>Iff.rfl) (λj y b=>h.ht k A hk j y ((e3 j y).1 b)) λr hr=>h.hr k A hk r (by rw[←e2];exact hr)
theorem WI.cls (h:WI W){p:Pc}(hp:p∈W.held){j:Nat}(e:p.cls=j)(hk:W.bY[p.k]?=some A):∃c,A.tb[j]?=some c/\p.size=c.size/\fM A j (p.addr:Int)/\(p.eM=true↔gT A j (p.addr:Int)):=by
 rcases h.hd hk hp rfl with⟨h1,_⟩|⟨i,c,h1,h2,h3,h4,h5⟩
 ·omega
 ·obtain rfl:i=j:=by omega
  exact⟨c,h2,h3,h4,h5⟩
theorem WI.run (h:WI W){p:Pc}(hp:p∈W.held)(e:p.cls = -1)(hk:W.bY[p.k]?=some A):p.eM=false/\∃r∈A.runs,p.addr=r.1*256/\p.size=r.2*256:=by
 rcases h.hd hk hp rfl with⟨_,h2⟩|⟨i,c,h1,_⟩
 ·exact h2
 ·omega
theorem Kt {k:Nat}{cls x:Int}{p:Pc}:lS k cls x p=true↔p.k=k/\p.cls=cls/\(p.addr:Int)=x/\p.eM=false:=by
 simp[lS]
theorem ZS {k:Nat}{cls:Int}{l:List Int}{p:Pc}:dW k cls l p=true↔p.k=k/\p.cls=cls/\(p.addr:Int)∈l:=by
 simp[dW]
theorem Lc {held:List Pc}{k:Nat}{cls x:Int}{i:Nat}(h:uE held k cls x=some i):∃p,held[i]?=some p/\lS k cls x p=true:=by
 obtain⟨a,b,_⟩:=nm.1 h;exact⟨held[i],cV a,b⟩
theorem Pp {held:List Pc}{k:Nat}{cls x:Int}{p:Pc}(hp:p∈held)(h:lS k cls x p=true):(uE held k cls x).isSome=true:=by
 unfold uE;rw[List.findIdx?_isSome,ko];exact⟨p,hp,h⟩
theorem Kx {held:List Pc}{k:Nat}{cls:Int}{l:List Int}:je held k cls l=true↔(∀x∈l,∃p∈held,lS k cls x p=true)/\l.Nodup:=by
 unfold je;rw[zF,j5,zU];refine and_congr_left λ_=>forall_congr' λx=>imp_congr_right λa=>?_;unfold uE;rw[List.findIdx?_isSome,ko]
theorem Mq {held:List Pc}(hn:(held.map Pc.key).Nodup){i:Nat}{p:Pc}(hi:held[i]?=some p):held.take i++held.drop (i+1)=held.filter λq=>!(q.key==p.key):=by
 induction held generalizing i with
 | nil=>simp at hi
 | cons q l ih=>
  rw[zS,zr]at hn;cases i with
  | zero=>
   simp only[xP,Option.some.injEq]at hi;subst hi;have:l.filter (λr=>!(r.key==q.key))=l:=by
    rw[po];intro r hr;have:r.key≠q.key:=λe=>hn.1 (zE.2 ⟨r,hr,e⟩);simpa using this
   simp[this]
  | succ i=>
   have hi:l[i]?=some p:=by simpa using hi
   have a:q.key≠p.key:=λe=>hn.1 (zE.2 ⟨p,zG hi,e.symm⟩);rw[uH,yF,ld,ih hn.2 hi,sW];have:(!(q.key==p.key))=true:=by simpa using a
   rw[this];rfl
theorem VN {held:List Pc}(hn:(held.map Pc.key).Nodup)(f:Pc->Bool):((held.filter f).map Pc.key).Nodup:=hn.sublist (List.filter_sublist.map _)
theorem F4 {k:Nat}{cls:Int}:∀(l:List Int) {held:List Pc},(held.map Pc.key).Nodup->(∀x∈l,∃p∈held,lS k cls x p=true)->l.Nodup->wN held k cls l=held.filter λp=>!dW k cls l p
 | [],held,_,_,_=>by
  have:∀p,dW k cls [] p=false:=λp=>by simp[dW]
  exact(po.2 λp _=>by rw[this];rfl).symm
 | x::l,held,hn,ho,hl=>by
  obtain⟨p,B,C⟩:=ho x aA;obtain⟨i,w⟩:=pJ.1 (Pp B C);obtain⟨q,A,j⟩:=Lc w;have d:=zr.1 hl;have e1:lC k cls held x=held.filter λr=>!(r.key==q.key):=by unfold lC;rw[w];exact Mq hn A
  obtain⟨E,D,F,G⟩:=Kt.1 j;have m:=F4 l (held:=held.filter λr=>!(r.key==q.key)) (VN hn _) (λy u=>by
   obtain⟨r,s,g⟩:=ho y (by simp[u]);refine⟨r,zI.2 ⟨s,?_⟩,g⟩;have:r.key≠q.key:=λe=>by
    have H:r.addr=q.addr:=congrArg (λz:Key=>z.2.2) e;have:=(Kt.1 g).2.2.1;have:y=x:=by omega
    subst this;exact d.1 u
   simpa using this) d.2
  unfold wN at m ⊢;rw[qk,e1,m,B4];apply vW;intro r s;have e:(r.key==q.key)=(r.k==k&&(r.cls==cls&&(r.addr:Int)==x)):=by
   rw[l3];simp only[Pc.key,zT,zF,Prod.mk.injEq];constructor
   ·rintro⟨a,b,c⟩;exact⟨O,O,O⟩
   ·rintro⟨a,b,c⟩;exact⟨O,O,O⟩
  rw[e];unfold dW;rw[List.contains_cons];cases r.k==k<;>cases r.cls==cls<;>cases((r.addr:Int)==x)<;>cases l.contains (r.addr:Int)<;>rfl
theorem Qx {held:List Pc}{k:Nat}{cls:Int}{l:List Int}{m:Bool}{p:Pc}:p∈Hi held k cls l m↔∃q∈held,p=if dW k cls l q then{q with eM:=m}else q:=by
 unfold Hi;rw[zE];constructor
 ·rintro⟨q,hq,rfl⟩;exact⟨q,hq,rfl⟩
 ·rintro⟨q,hq,rfl⟩;exact⟨q,hq,rfl⟩
theorem OV {held:List Pc}{k:Nat}{cls:Int}{l:List Int}{m:Bool}:(Hi held k cls l m).map Pc.key=held.map Pc.key:=by
 unfold Hi;rw[lb];apply j2;intro p _;simp only[Function.comp];split<;>rfl
theorem Gy (hk:W.bY[k]?=some A)(h:WI W):WI (W.put k A W.sp W.held):=h.lI hk (St.refl (h.ga k A hk) (h.ow k A hk)) rfl (λ_ _=>Iff.rfl) rfl
theorem Ja (h:GA A){j:Nat}{c:bZ}{ss:List cF}(hc:Cl A j c ss){l:Nat}{s:cF}{i:Nat}(hs:ss[l]?=some s)(hi:i<c.n){x:Nat}(h1:at_ c s i<=x)(h2:x<at_ c s i+c.size):UE A (x:Int)=some ((j:Int),at_ c s i):=by
 have d:=h.cE j c ss hc;have b:=Hu d.pos hi h1 h2;have a:=h.used hc (zG hs) b.1 b.2;have e:=h.pg.lt (p:=x/256) (by rw[a.1];omega);have r:=h.pg.n2;have g:=hc.lt;have m:=h.tb;unfold UE;rw[zB O,dE];simp only;rw[zC (show x/256<1024 by omega),a.2,zB O,zB O,Nat.add_sub_cancel,hc.1,hc.2];simp only;rw[(CB d).2 ⟨l,s,i,hs,hi,rfl,O,O⟩];rfl
theorem FV (h:GA A){r:Nat×Nat}(hr:r∈A.runs){x:Nat}(h1:r.1*256<=x)(h2:x<(r.1+r.2)*256):UE A (x:Int)=some (-1,r.1*256):=by
 have a:=h.jm hr (p:=x/256) O O;have b:=h.pg.lt (p:=x/256) (by rw[a.1];omega);have d:=h.pg.n2;unfold UE;rw[zB O,dE];simp only;rw[zC (show x/256<1024 by omega),a.2,zB O,zC rfl,Bh h.nX hr O O];rfl
theorem MP (h:GA A){x:Int}{k:Int}{a:Nat}(hf:UE A x=some (k,a)):(k = -1/\∃r∈A.runs,a=r.1*256/\((r.1*256:Nat):Int)<=x/\x<(((r.1+r.2)*256:Nat):Int)) ∨
 ∃(j:Nat) (c:bZ) (ss:List cF) (l:Nat) (s:cF) (i:Nat),k=j/\Cl A j c ss/\ss[l]?=some s/\i<c.n/\a=at_ c s i/\((at_ c s i:Nat):Int)<=x/\x<((at_ c s i+c.size:Nat):Int):=by
 unfold UE at hf;split at hf
 ·cases hf
 ·rename_i hx;obtain⟨y,rfl⟩:=za (show 0<=x by omega);rw[dE]at hf;simp only at hf;by_cases hlt:y/256<1024
  ·rw[zC hlt]at hf;split at hf
   ·cases hf
   ·split at hf
    ·rename_i h0 h41;obtain⟨r,e,b⟩:=oy.1 hf;have w:=sT e;have z:=tv e;simp at z;cases b;exact .inl ⟨rfl,r,w,rfl,O,O⟩
    ·rename_i h0 h41;split at hf
     ·rename_i c ss h1 h2;obtain⟨C,g,b⟩:=oy.1 hf;cases b;have d:Cl A (A.ow (y/256)-1) c ss:=⟨h1,h2⟩;obtain⟨l,s,i,u,p,rfl,B,m⟩:=(CB (h.cE _ _ _ d)).1 g;exact .inr ⟨_,c,ss,l,s,i,rfl,d,u,p,rfl,B,m⟩
     ·cases hf
  ·rw[zB hlt,zC rfl]at hf;cases hf
theorem fM.find (h:GA A){j:Nat}{x:Int}(hx:fM A j x):∃y:Nat,x=y/\UE A x=some ((j:Int),y):=by
 obtain⟨c,d,a,m⟩:=hx;have b:=h.cE j c d a;obtain⟨l,s,i,g,e,rfl,p⟩:=(Vu b).1 m;exact⟨_,rfl,Ja h a g e (zD _) (by have:=b.pos;omega)⟩
theorem G3 (h:GA A){x:Int}:wZ A x=true↔(∃j,fM A j x)\/∃r∈A.runs,x=((r.1*256:Nat):Int):=by
 constructor
 ·intro hx;unfold wZ at hx;split at hx
  ·rename_i k a e;split at hx
   ·rename_i he;rcases MP h e with⟨rfl,r,hr,rfl,_⟩|⟨j,c,d,l,s,i,rfl,b,hs,hi,rfl,_⟩
    ·exact .inr ⟨r,hr,he.symm⟩
    ·rw[zB O,dE,b.1,b.2]at hx;exact .inl ⟨j,c,d,b,by simpa[Tk]using hx⟩
   ·cases hx
  ·cases hx
 ·rintro(⟨j,hj⟩|⟨r,hr,rfl⟩)
  ·obtain⟨y,rfl,e⟩:=hj.find h;obtain⟨c,d,b,g⟩:=hj;unfold wZ;rw[e];simp only;rw[zC True.intro,zB O,dE,b.1,b.2];unfold Tk at g;show(dY c d (y:Int)==some true)=true;rw[g];rfl
  ·unfold wZ;have:=h.gO r hr;rw[FV h hr (zD _) O];simp
theorem WI.vA (h:WI W)(hk:W.bY[k]?=some A){cl:Int}{l:List Int}(ho:je W.held k cl l=true){j:Nat}(e:cl=j):∀x∈l,¬gT A j x:=by
 intro x hx hin;obtain⟨p,i,a⟩:=(Kx.1 ho).1 x hx;obtain⟨r,g,m,b⟩:=Kt.1 a;obtain⟨c,_,_,_,d⟩:=h.cls i (j:=j) (by rw[g,e]) (by rw[r];exact hk);rw[m]at d;rw[d.2 hin]at b;cases b
theorem WI.grow (h:WI W)(hk:W.bY[k]?=some A)(x:Int):WI (W.put k (cL A W.sp x).1 (cL A W.sp x).2 W.held):=by
 obtain⟨s,e1,e2,a,_⟩:=Oz (h.ga k A hk) (h.ow k A hk) x;exact h.lI hk s e1 a e2
theorem WI.from (h:WI W)(hk:W.bY[k]?=some A)(cl m:Int):WI (W.put k (Yu A cl m) W.sp (W.held++(Yb A cl m).map λy=>⟨k,cl,y,oI W.tb cl,false⟩)):=by
 obtain⟨o,e1,e2,M,D,z⟩:=Ij (h.ga k A hk) cl m;have tb:(Yu A cl m).tb=A.tb:=o.kp.tb;have i:∀y∈Yb A cl m,∃j:Nat,cl=j/\j<A.tb.length:=λy g=>M (λe=>by rw[e]at g;simp at g);have w:∀y∈Yb A cl m,∀p∈W.held,¬(p.k=k/\p.cls=cl/\p.addr=y):=by
  rintro y g p d ⟨G,N,L⟩;obtain⟨j,rfl,_⟩:=i y g;obtain⟨c,_,_,ht,_⟩:=h.cls d N (by rw[G];exact hk);rw[L]at ht;exact D y g (by rw[dE];exact ht)
 refine h.step hk (o.st (h.ow k A hk)) ?_ (λp d e=>?_) (λp C=>?_) (λj y g=>?_) λr hr=>?_
 ·rw[j4,nK];refine⟨h.hk,?_,λa F b J e=>?_⟩
  ·rw[lb];exact List.Pairwise.map (R:=(· ≠ ·)) _ (λa b B e=>B (by simpa[Pc.key]using e)) e2
  ·subst e;obtain⟨p,d,rfl⟩:=zE.1 F;obtain⟨q,K,e⟩:=zE.1 J;obtain⟨y,g,rfl⟩:=zE.1 K;simp only[Pc.key,Prod.mk.injEq]at e;exact w y g p d ⟨e.1.symm,e.2.1.symm,e.2.2.symm⟩
 ·rcases zK.1 d with d|d
  ·exact(h.hd hk d e).to tb o.runs (λj y s=>(z j y).2 (.inl s)) λj y=>by unfold gT;rw[e1]
  ·obtain⟨y,g,rfl⟩:=zE.1 d;obtain⟨j,rfl,s⟩:=i y g;refine .inr ⟨j,A.tb[j],rfl,by rw[tb];exact cV s,?_,(z j y).2 (.inr ⟨(dE j).symm,y,g,rfl⟩),?_⟩
   ·show oI W.tb (j:Int)=_;unfold oI;rw[dE,←h.tb k A hk,cV s];rfl
   ·constructor
    ·intro hx;cases hx
    ·rintro⟨t,ht,hx⟩;rw[e1]at ht;obtain⟨c,H,P,E,u⟩:=(h.ga k A hk).cl s;rw[ht]at u;cases u;exact(D y g (by rw[dE];exact(KO E).2 ((h.ga k A hk).lZ j c H t E ht _ hx))).elim
 ·rw[zK];constructor
  ·rintro(d|d)
   ·exact d
   ·obtain⟨y,_,rfl⟩:=zE.1 d;exact(C rfl).elim
  ·exact .inl
 ·rcases(z j y).1 g with g|⟨rfl,x,hx,rfl⟩
  ·obtain⟨p,d,q⟩:=h.ht k A hk j y g;exact⟨p,ky _ d,q⟩
  ·obtain⟨j,rfl,_⟩:=i x hx;exact⟨_,nR _ (zE.2 ⟨x,hx,rfl⟩),rfl,by simp,rfl⟩
 ·rw[o.runs]at hr;obtain⟨p,d,q⟩:=h.hr k A hk r hr;exact⟨p,ky _ d,q⟩
theorem WI.xw (h:WI W){cl:Int}{l:List Int}(ho:je W.held k cl l=true):wN W.held k cl l=W.held.filter λp=>!dW k cl l p:=
 F4 l h.hk (Kx.1 ho).1 (Kx.1 ho).2
theorem WI.Lz (h:WI W)(hk:W.bY[k]?=some A){cl:Int}{l:List Int}(ho:je W.held k cl l=true):WI (W.put k (Zt A cl l) W.sp (if QJ A cl l=0 then wN W.held k cl l else W.held)):=by
 have ga:=h.ga k A hk;obtain⟨o,e1,e2,K⟩:=BU ga (k:=cl) (xs:=l) λg x m=>by
  obtain⟨j,c,H,rfl,_⟩:=Bs ga g;rw[dE];exact h.vA hk ho rfl x m
 by_cases g:QJ A cl l=0
 ·rw[zC g,h.xw ho];obtain⟨j,c,H,rfl,L,N⟩:=Bs ga g;have e2:=e2 g;rw[dE]at e2;refine h.step hk (o.st (h.ow k A hk)) (VN h.hk _) (λp s e=>?_) (λp E=>?_) (λi y J=>?_) λr hr=>?_
  ·have u:=zI.1 s;have B:dW k (j:Int) l p=false:=by simpa using u.2
   rcases h.hd hk u.1 e with⟨h1,h2,r,hr,h3⟩|⟨i,d,h1,h2,h3,h4,h5⟩
   ·exact .inl ⟨h1,h2,r,by rw[o.runs];exact hr,h3⟩
   ·refine .inr ⟨i,d,h1,by rw[o.kp.tb];exact h2,h3,(e2 i _).2 ⟨h4,λ⟨a,b⟩=>?_⟩,by unfold gT at h5 ⊢;rw[e1];exact h5⟩;have:dW k (j:Int) l p=true:=ZS.2 ⟨e,by rw[h1,a],b⟩;rw[B]at this;cases this
  ·rw[zI];have:dW k (j:Int) l p=false:=by
    apply ng.2;intro m;exact E (ZS.1 m).1
   rw[this];simp
  ·obtain⟨C,D⟩:=(e2 i y).1 J;obtain⟨p,s,z,F,w⟩:=h.ht k A hk i y C;refine⟨p,zI.2 ⟨s,?_⟩,z,F,w⟩;have:dW k (j:Int) l p=false:=by
    apply ng.2;intro m;obtain⟨_,M,G⟩:=ZS.1 m;exact D ⟨O,by rw[←w];exact G⟩
   rw[this];rfl
  ·rw[o.runs]at hr;obtain⟨p,s,z,F,w⟩:=h.hr k A hk r hr;refine⟨p,zI.2 ⟨s,?_⟩,z,F,w⟩;have:dW k (j:Int) l p=false:=by
    apply ng.2;intro m;have:=(ZS.1 m).2.1;omega
   rw[this];rfl
 ·rw[zB g,K g];exact Gy hk h
theorem WI.move (h:WI W)(hk:W.bY[k]?=some A){B:AR}{j:Nat}{l:List Int}{m:Bool}(o:Ob A B)(e1:∀i y,fM B i y↔fM A i y)(e2:∀i y,gT B i y↔if i=j/\y∈l then m=true else gT A i y):WI (W.put k B W.sp (Hi W.held k (j:Int) l m)):=by
 refine h.step hk (o.st (h.ow k A hk)) (by rw[OV];exact h.hk) (λp a e=>?_) (λp b=>?_) (λi y g=>?_) λr hr=>?_
 ·obtain⟨q,s,rfl⟩:=Qx.1 a;have d:q.k=k:=by
   split at e<;>exact e
  rcases h.hd hk s d with⟨h1,h2,r,hr,h3⟩|⟨i,c,h1,h2,h3,h4,h5⟩
  ·have:dW k (j:Int) l q=false:=by
    apply ng.2;intro hx;have:=(ZS.1 hx).2.1;omega
   rw[this];exact .inl ⟨h1,h2,r,by rw[o.runs];exact hr,h3⟩
  ·by_cases hx:dW k (j:Int) l q=true
   ·rw[zC hx];obtain⟨_,D,C⟩:=ZS.1 hx;have z:i=j:=by omega
    refine .inr ⟨i,c,h1,by rw[o.kp.tb];exact h2,h3,(e1 _ _).2 h4,?_⟩;show m=true↔gT B i (q.addr:Int);rw[e2,zC ⟨z,C⟩]
   ·rw[zB hx];refine .inr ⟨i,c,h1,by rw[o.kp.tb];exact h2,h3,(e1 _ _).2 h4,?_⟩;rw[e2,zB λg=>hx (ZS.2 ⟨d,by rw[h1,g.1],g.2⟩)];exact h5
 ·rw[Qx];constructor
  ·rintro⟨q,s,rfl⟩;have:dW k (j:Int) l q=false:=by
    apply ng.2;intro hx;rw[zC hx]at b;exact b (ZS.1 hx).1
   rw[this];exact s
  ·intro a;refine⟨p,a,?_⟩;have:dW k (j:Int) l p=false:=by
    apply ng.2;intro hx;exact b (ZS.1 hx).1
   rw[this];rfl
 ·obtain⟨p,a,u,w,x⟩:=h.ht k A hk i y ((e1 i y).1 g);refine⟨_,Qx.2 ⟨p,a,rfl⟩,?_,?_,?_⟩
  ·split<;>exact u
  ·split<;>exact w
  ·split<;>exact x
 ·rw[o.runs]at hr;obtain⟨p,a,u,w,x⟩:=h.hr k A hk r hr;refine⟨_,Qx.2 ⟨p,a,rfl⟩,?_,?_,?_⟩
  ·split<;>exact u
  ·split<;>exact w
  ·split<;>exact x
theorem Jd {held:List Pc}{k:Nat}{cls:Int}{m:Bool}:Hi held k cls [] m=held:=by
 unfold Hi;have:∀p,dW k cls [] p=false:=λp=>by simp[dW]
 simp[this]
theorem WI.wI (h:WI W)(hk:W.bY[k]?=some A)(cl:Int):WI (W.put k (Zv A cl) W.sp (Hi W.held k cl (Yq A cl) false)):=by
 obtain⟨o,e1,e2,s,b,a⟩:=Cq (h.ga k A hk) cl;by_cases hv:Yq A cl=[]
 ·rw[hv,Jd];have m:∀j y,gT (Zv A cl) j y↔gT A j y:=λj y=>by rw[a,hv];simp
  refine h.step hk (o.st (h.ow k A hk)) h.hk (λp d e=>(h.hd hk d e).to o.kp.tb o.runs (λj y=>(e1 j y).2) m) (λ_ _=>Iff.rfl) (λj y g=>h.ht k A hk j y ((e1 j y).1 g)) λr hr=>h.hr k A hk r (by rw[←o.runs];exact hr)
 ·obtain⟨j,rfl,_⟩:=b hv;rw[dE]at a;exact h.move hk o e1 λi y=>by
   rw[a];split
   ·rename_i hx;simp[hx]
   ·rename_i hx;simp[hx]
theorem WI.Mm (h:WI W)(hk:W.bY[k]?=some A){cl:Int}{l:List Int}(ho:je W.held k cl l=true):WI (W.put k (QR A cl l) W.sp (if KY A cl l then Hi W.held k cl l true else W.held)):=by
 by_cases a:KY A cl l=true
 ·have b:∃j:Nat,cl=j:=by
   have d:U2 A cl l=0:=by
    unfold KY at a;simp only[zF,zU]at a;exact a.1
   have b:A.ck cl=true:=by
    unfold U2 at d;split at d
    ·assumption
    ·cases d
   obtain⟨j,g,_⟩:=U6.1 b;exact⟨j,g⟩
  obtain⟨j,rfl⟩:=b;obtain⟨o,e1,e2,_⟩:=Jo (h.ga k A hk) (j:Int) (xs:=l) (Kx.1 ho).2 (by rw[dE];exact h.vA hk ho rfl);obtain⟨_,_,e2⟩:=e2 a;rw[dE]at e2;rw[a,zC rfl];exact h.move hk o e1 λi y=>by
   rw[e2];split
   ·rename_i hx;simp[hx]
   ·rename_i hx;simp[hx]
 ·have a:KY A cl l=false:=by simpa using a
  have e:QR A cl l=A:=by unfold QR;rw[a];rfl
  rw[a,e];exact Gy hk h
theorem WI.wP (h:WI W)(hk:W.bY[k]?=some A)(m a:Int):WI (W.put k (cA A W.sp m a).1 (cA A W.sp m a).2 (if Qi A W.sp m a=0 then W.held++[⟨k, -1,ZU A W.sp m a*256,m.toNat*256,false⟩]else W.held)):=by
 rcases PE (h.ga k A hk) (h.ow k A hk) m a with⟨e,hE,_⟩|⟨x,A1,sp1,g,hE,hV,e,htk,hor,s,et,ek⟩
 ·rw[zB hE,e];exact Gy hk h
 ·rw[zC hE,hV];have u:(cA A W.sp m a).1.runs=A.runs++[(x,m.toNat)]:=by rw[e]
  have w:∀r∈A.runs,r.1≠x:=by
   have hd:=s.ga.j9;rw[u]at hd;intro r hr e2;have z:=(px.1 hd).2.2 r hr (x,m.toNat) aA;have B:=(h.ga k A hk).gO r hr;have i:=s.ga.gO (x,m.toNat) (by rw[u];simp);simp only at z i;omega
  refine h.step hk s ?_ (λp g e=>?_) (λp C=>?_) (λj y E=>?_) λr hr=>?_
  ·rw[j4,nK];refine⟨h.hk,by simp,λb D d hd e2=>?_⟩;subst e2;obtain⟨p,g,rfl⟩:=zE.1 D;simp only[zS,qD,zN,Pc.key,Prod.mk.injEq]at hd;obtain⟨_,r,hr,i,_⟩:=h.run g hd.2.1 (A:=A) (by rw[hd.1];exact hk);exact w r hr O
  ·rcases zK.1 g with g|g
   ·rcases h.hd hk g e with⟨z,B,r,hr,i⟩|⟨j,c,z,B,i,h4,h5⟩
    ·exact .inl ⟨z,B,r,by rw[u];exact ky _ hr,i⟩
    ·exact .inr ⟨j,c,z,by rw[s.tb];exact B,i,(ek _ _).2 h4,by unfold gT at h5 ⊢;rw[et];exact h5⟩
   ·simp only[zN]at g;subst g;exact .inl ⟨rfl,rfl,(x,m.toNat),by rw[u];simp,rfl,rfl⟩
  ·rw[zK];constructor
   ·rintro(g|g)
    ·exact g
    ·simp only[zN]at g;subst g;exact(C rfl).elim
   ·exact .inl
  ·obtain⟨p,g,q⟩:=h.ht k A hk j y ((ek j y).1 E);exact⟨p,ky _ g,q⟩
  ·rw[u]at hr;rcases zK.1 hr with hr|hr
   ·obtain⟨p,g,q⟩:=h.hr k A hk r hr;exact⟨p,ky _ g,q⟩
   ·simp only[zN]at hr;subst hr;exact⟨_,nR _ (zN.2 rfl),rfl,rfl,rfl⟩
theorem WI.mY (h:WI W)(hk:W.bY[k]?=some A){r:Nat×Nat}(hr:r∈A.runs):je W.held k (-1) [(r.1:Int)*256]=true:=by
 refine Kx.2 ⟨λx a=>?_,by simp⟩;simp only[zN]at a;subst a;obtain⟨p,e,d,b,g⟩:=h.hr k A hk r hr;exact⟨p,e,Kt.2 ⟨d,b,O,(h.run e b (by rw[d];exact hk)).1⟩⟩
theorem WI.we (h:WI W)(hk:W.bY[k]?=some A)(x:Int):WI (W.put k (Qq A x) W.sp (if KG A x=0 then wN W.held k (-1) [x*256]else W.held)):=by
 have ga:=h.ga k A hk;obtain⟨⟨kp,g⟩,L,H,e1,e2⟩:=Mb ga x;by_cases h0:KG A x=0
 ·rw[zC h0];obtain⟨r,hr,rfl,G⟩:=e2 h0;rw[h.xw (h.mY hk hr)];have m:∀p:Pc,dW k (-1) [(r.1:Int)*256] p=true↔p.k=k/\p.cls = -1/\p.addr=r.1*256:=λp=>by
   rw[ZS];simp only[zN];constructor
   ·rintro⟨a,b,c⟩;exact⟨a,b,O⟩
   ·rintro⟨a,b,c⟩;exact⟨a,b,O⟩
  refine h.step hk (St.kp g (h.ow k A hk) kp) (VN h.hk _) (λp s e=>?_) (λp E=>?_) (λi y K=>?_) λq d=>?_
  ·have z:=zI.1 s;have w:¬dW k (-1) [(r.1:Int)*256] p=true:=by simpa using z.2
   rw[m]at w;rcases h.hd hk z.1 e with⟨h1,h2,q,d,u⟩|⟨j,c,h1,h2,u,J,D⟩
   ·refine .inl ⟨h1,h2,q,?_,u⟩;rw[G,zI];refine⟨d,?_⟩;have:q≠r:=by rintro rfl;exact w ⟨e,h1,u.1⟩
    simpa using this
   ·exact .inr ⟨j,c,h1,by rw[kp.tb];exact h2,u,(H _ _).2 J,by unfold gT at D ⊢;rw[L];exact D⟩
  ·rw[zI];have:dW k (-1) [(r.1:Int)*256] p=false:=by
    apply ng.2;intro hx;exact E (ZS.1 hx).1
   rw[this];simp
  ·obtain⟨p,s,B,F,C⟩:=h.ht k A hk i y ((H i y).1 K);refine⟨p,zI.2 ⟨s,?_⟩,B,F,C⟩;have:dW k (-1) [(r.1:Int)*256] p=false:=by
    apply ng.2;intro hx;have:=((m p).1 hx).2.1;omega
   rw[this];rfl
  ·rw[G,zI]at d;obtain⟨p,s,B,F,C⟩:=h.hr k A hk q d.1;refine⟨p,zI.2 ⟨s,?_⟩,B,F,C⟩;have:dW k (-1) [(r.1:Int)*256] p=false:=by
    apply ng.2;intro hx;have u:=((m p).1 hx).2.2;have J:=ga.gO q d.1;have D:=ga.gO r hr;have:q=r:=ga.gQ d.1 hr (x:=q.1) O O O O;subst this;simp at d
   rw[this];rfl
 ·rw[zB h0,e1 h0];exact Gy hk h
theorem WI.tick (h:WI W)(hk:W.bY[k]?=some A):WI (W.put k (rO A) W.sp (xO (W.bY.set k (rO A)) W.held)):=by
 have ga:=h.ga k A hk;have t:=N7 ga;have w:=(cW.1 hk).1;have d:(W.bY.set k (rO A))[k]?=some (rO A):=zL w;have bS:∀p∈W.held,p∈xO (W.bY.set k (rO A)) W.held↔(p.k=k->∀j:Nat,p.cls=j->fM (rO A) j (p.addr:Int)):=by
  intro p a;unfold xO;rw[zI];simp only[a,sU,nb,mC];by_cases hpk:p.k=k
  ·rw[hpk,d];simp only[true_implies];rcases h.hd hk a hpk with⟨h1,h2,r,hr,h3⟩|⟨j,c,h1,h2,h3,h4,h5⟩
   ·exact⟨λ_ j s=>O,λ_=>.inl h2⟩
   ·constructor
    ·intro hx i E;obtain rfl:i=j:=by omega
     rcases hx with hx|hx
     ·refine(t.tk i _).2 ⟨h4,λz=>?_⟩;rw[h5.2 z]at hx;cases hx
     ·rcases(G3 t.ob.ga).1 hx with⟨j',hj'⟩|⟨r,hr,e⟩
      ·obtain⟨y,e,hf⟩:=((t.tk j' _).1 hj').1.find ga;obtain⟨K,L,b⟩:=h4.find ga;rw[hf]at b;have:j'=i:=by
        have:=congrArg Prod.fst (Option.some.inj b);simp only at this;omega
       rw[←this];exact hj'
      ·rw[t.ob.runs]at hr;have:=ga.gO r hr;have J:=FV ga hr (x:=r.1*256) (zD _) O;obtain⟨K,L,b⟩:=h4.find ga;rw[e,J]at b;have:=congrArg Prod.fst (Option.some.inj b);simp only at this;omega
    ·intro hx;by_cases hm:p.eM=true
     ·exact .inr ((G3 t.ob.ga).2 (.inl ⟨j,hx j h1⟩))
     ·exact .inl (by simpa using hm)
  ·constructor
   ·intro _ hx;exact(hpk hx).elim
   ·intro _;obtain⟨C,F,H⟩:=h.hf p a;rw[zk (Ne.symm hpk),F];rcases H with⟨h1,h2,_⟩|⟨j,c,_,_,_,h4,_⟩
    ·exact .inl h2
    ·exact .inr ((G3 (h.ga _ C F)).2 (.inl ⟨j,h4⟩))
 have sub:∀p,p∈xO (W.bY.set k (rO A)) W.held->p∈W.held:=λp a=>(zI.1 a).1;refine h.step hk (t.ob.st (h.ow k A hk)) (VN h.hk _) (λp a e=>?_) (λp B=>⟨sub p,λa=>(bS p a).2 λe=>(B e).elim⟩) (λj y G=>?_) λr hr=>?_
 ·have u:=(bS p (sub p a)).1 a e;rcases h.hd hk (sub p a) e with⟨h1,h2,r,hr,h3⟩|⟨j,c,h1,h2,h3,h4,h5⟩
  ·exact .inl ⟨h1,h2,r,by rw[t.ob.runs];exact hr,h3⟩
  ·have s:=u j h1;refine .inr ⟨j,c,h1,by rw[t.ob.kp.tb];exact h2,h3,s,?_⟩;rw[h5];exact⟨((t.tk j _).1 s).2,t.sub j _⟩
 ·obtain⟨p,a,m,D,g⟩:=h.ht k A hk j y ((t.tk j y).1 G).1;refine⟨p,(bS p a).2 λ_ i E=>?_,m,D,g⟩;obtain rfl:i=j:=by omega
  rw[g];exact G
 ·rw[t.ob.runs]at hr;obtain⟨p,a,m,D,g⟩:=h.hr k A hk r hr;exact⟨p,(bS p a).2 λ_ i E=>O,m,D,g⟩
theorem WI.qI (h:WI W){p:Pc}(hp:p∈W.held)(hk:W.bY[p.k]?=some A){x:Nat}(h1:p.addr<=x)(h2:x<p.addr+p.size):A.f (x/256)=1:=by
 have ga:=h.ga _ A hk;rcases h.hd hk hp rfl with⟨_,_,r,hr,e1,e2⟩|⟨j,c,_,hc,e1,ht,_⟩
 ·exact(ga.jm hr O O).1
 ·obtain⟨d,m,a,b⟩:=ht;have:d=c:=Option.some.inj (a.1.symm.trans hc);subst this;have g:=ga.cE j d m a;obtain⟨l,s,i,w,u,e,_⟩:=(Vu g).1 b;have y:p.addr=at_ d s i:=Int.ofNat.inj e;have:=Hu g.pos u (s:=s) (x:=x) O O;exact(ga.used a (zG w) this.1 this.2).1
theorem fM.lt (h:GA A){j:Nat}{x:Int}(hx:fM A j x):∃y:Nat,x=y/\y<262144:=by
 obtain⟨c,e,d,r⟩:=hx;have a:=h.cE j c e d;obtain⟨l,s,i,m,g,rfl,w⟩:=(Vu a).1 r;have b:=Hu a.pos (s:=s) (x:=at_ c s i) g (zD _) (by have:=a.pos;omega);have u:=(h.used d (zG m) b.1 b.2).1;have:=h.pg.lt (p:=at_ c s i/256) O;have:=h.pg.n2;exact⟨_,rfl,O⟩
theorem WI.jE (h:WI W){p:Pc}(hp:p∈W.held):p.addr<262144/\p.addr+p.size<=270000:=by
 obtain⟨A,m,g⟩:=h.hf p hp;have ga:=h.ga _ A m;have u:=ga.pg.n2;rcases g with⟨_,_,r,hr,h1,h2⟩|⟨j,c,_,hc,h2,h3,_⟩
 ·have s:=ga.fit hr;have w:=ga.gO r hr;omega
 ·obtain⟨y,e,x⟩:=h3.lt ga;obtain⟨i,d,a,_⟩:=h3;have:i=c:=Option.some.inj (a.1.symm.trans hc);subst this;have b:=(ga.cE j _ d a).ok;unfold bZ.ok at b;omega
theorem Cr:∀(N:Nat) (l:List Nat),l.Nodup->(∀x∈l,x<N)->l.length<=N
 | 0,l,_,h=>by
  cases l with
  | nil=>simp
  | cons x l=>have:=h x aA;omega
 | N+1,l,hn,h=>by
  have g:=Cr N (l.filter (· != N)) (hn.sublist sD) λx b=>by
   have b:=zI.1 b;have:=h x b.1;have:x≠N:=by simpa using b.2
   omega
  have d:=List.length_eq_countP_add_countP (l:=l) (p:=(· != N));have i:l.countP (λa=>¬(a != N)=true)<=1:=by
   have e:l.countP (λa=>¬(a != N)=true)=l.count N:=by
    unfold List.count;apply List.countP_congr;intro x _;simp
   rw[e];exact A3.1 hn N
  rw[yu]at d;omega
theorem WI.apart (h:WI W){p q:Pc}(hp:p∈W.held)(hq:q∈W.held){x:Nat}(p1:p.addr<=x)(p2:x<p.addr+p.size)(q1:q.addr<=x)(q2:x<q.addr+q.size):p=q:=by
 obtain⟨A,m,J⟩:=h.hf p hp;obtain⟨B,y,D⟩:=h.hf q hq;have e1:=h.qI hp m p1 p2;have e2:=h.qI hq y q1 q2;have z:p.k=q.k:=h.one (x/256) p.k q.k A B m y O O;rw[←z,m]at y;cases y;have ga:=h.ga _ A m;have L:=ga.tb;have own:∀{r:Pc},Hd A r->r.addr<=x->x<r.addr+r.size->(r.cls = -1/\A.ow (x/256)=41/\∃u∈A.runs,r.addr=u.1*256/\u.1<=x/256/\x/256<u.1+u.2) ∨
  ∃(j:Nat) (c:bZ) (b:List cF) (l:Nat) (s:cF) (i:Nat),r.cls=j/\A.ow (x/256)=j+1/\Cl A j c b/\b[l]?=some s/\i<c.n/\r.addr=at_ c s i/\r.size=c.size:=by
  intro r hr r1 r2;rcases hr with⟨c1,_,u,hu,c2,c3⟩|⟨j,c,c1,c2,c3,c4,_⟩
  ·exact .inl ⟨c1,(ga.jm hu O O).2,u,hu,c2,O,O⟩
  ·obtain⟨d,b,a,G⟩:=c4;have:d=c:=Option.some.inj (a.1.symm.trans c2);subst this;have F:=ga.cE j d b a;obtain⟨l,s,i,C,E,e,_⟩:=(Vu F).1 G;have K:r.addr=at_ d s i:=Int.ofNat.inj e;have g:=Hu F.pos (s:=s) (x:=x) E O O;exact .inr ⟨j,d,b,l,s,i,c1,(ga.used a (zG C) g.1 g.2).2,a,C,E,K,c3⟩
 refine h.unique hp hq ?_;rcases own J p1 p2 with⟨a1,a2,u,hu,a3,a4,a5⟩|⟨j,c,b,l,s,i,a1,a2,a3,a4,a5,a6,a7⟩
 ·rcases own D q1 q2 with⟨b1,b2,w,hw,b3,b4,b5⟩|⟨j',d,ss',l',s',i',b1,b2,b3,b4,b5,b6,b7⟩
  ·have:=ga.gQ hu hw a4 a5 b4 b5;subst this;unfold Pc.key;rw[z,a1,b1,a3,b3]
  ·have:=b3.lt;omega
 ·rcases own D q1 q2 with⟨b1,b2,w,hw,b3,b4,b5⟩|⟨j',d,ss',l',s',i',b1,b2,b3,b4,b5,b6,b7⟩
  ·have:=a3.lt;omega
  ·have H:j=j':=by omega
   subst H;obtain⟨rfl,rfl⟩:=a3.eq b3;have:=V8 (ga.cE j c b a3) a4 b4 a5 b5 (x:=x) O O O O;unfold Pc.key;rw[z,a1,b1,a6,b6,this.2.1,this.2.2]
theorem WI.size_pos (h:WI W){p:Pc}(hp:p∈W.held):8<=p.size/\p.size%8=0:=by
 obtain⟨A,i,g⟩:=h.hf p hp;have ga:=h.ga _ A i;rcases g with⟨_,_,r,hr,h1,h2⟩|⟨j,c,_,hc,h2,h3,_⟩
 ·have m:=ga.gO r hr;omega
 ·obtain⟨e,d,a,_⟩:=h3;have:e=c:=Option.some.inj (a.1.symm.trans hc);subst this;have b:=(ga.cE j _ d a).ok;unfold bZ.ok at b;omega
theorem WI.len (h:WI W):W.held.length<=262144:=by
 have w:(W.held.map (·.addr)).Nodup:=by
  have m:=mc.1 h.hk;refine mc.2 λi j s r d e=>?_;have a:i<W.held.length:=by simpa using s
  have b:j<W.held.length:=by simpa using r
  refine m i j (by simpa using a) (by simpa using b) d ?_;simp only[sB]at e ⊢;have s1:=(h.size_pos (j7 a)).1;have s2:=(h.size_pos (j7 b)).1;rw[h.apart (j7 a) (j7 b) (x:=W.held[i].addr) (zD _) O O O]
 have:=Cr 262144 _ w λx u=>by
  obtain⟨p,g,rfl⟩:=zE.1 u;exact(h.jE g).1
 simpa using this
end Go.Ar
namespace Go.Ar
open Go.Vc (bW dB cS)
def lY (live:List (Int×Bk))(k x:Int):Nat:=live.countP λe=>e.2.2.2.1==k&&e.1==x
def lP (ls:List Li)(k x:Int):Nat:=if 0<=k then(ls.getD k.toNat ia).os.count x else 0
def lD (bs:List Bt)(k x:Int):Nat:=(bs.map λb=>if(b.1:Int)=k then b.2.count x else 0).sum
def jC (p:Option Ph)(k x:Int):Nat:=match p with
 | some (.dC s _)=>if k = -1/\x=s*256 then 1 else 0
 | _=>0
def gI (g:Th)(k x:Int):Nat:=lP g.ls k x+lD g.bP k x+jC g.ph k x
def pY (H:Hw)(k x:Int):Nat:=lY H.live k x+(H.bQ.map λg=>gI g k x).sum
def Um (held:List Pc)(k x:Int):Prop:=∃p∈held,p.eM=false/\p.cls=k/\(p.addr:Int)=x
open Classical in
noncomputable def kM (held:List Pc)(k x:Int):Nat:=if Um held k x then 1 else 0
theorem FX (held:List Pc)(k x:Int):kM held k x<=1:=by unfold kM;split<;>omega
theorem BL {held:List Pc}{k x:Int}(h:1<=kM held k x):Um held k x:=by
 unfold kM at h;split at h
 ·assumption
 ·omega
theorem Vl {held:List Pc}{k x:Int}(h:Um held k x):kM held k x=1:=by unfold kM;rw[zC h]
theorem Q3 {held:List Pc}{k x:Int}(h:¬Um held k x):kM held k x=0:=by unfold kM;rw[zB h]
theorem F2 {l:List Int}(hn:l.Nodup)(x:Int):l.count x=if x∈l then 1 else 0:=by
 split
 ·rename_i h;have a:=A3.1 hn x;have b:=Aq.2 h;omega
 ·rename_i h;exact xz.2 h
theorem A4 {held held':List Pc}{cl:Int}{l:List Int}(hn:l.Nodup)(h0:∀x∈l,¬Um held cl x)(h:∀k x,Um held' k x↔Um held k x\/(k=cl/\x∈l))(k x:Int):kM held' k x=kM held k x+(if cl=k then l.count x else 0):=by
 by_cases hk:cl=k
 ·subst hk;rw[zC rfl,F2 hn];by_cases hx:x∈l
  ·rw[zC hx,Q3 (h0 x hx),Vl ((h _ _).2 (.inr ⟨rfl,hx⟩))]
  ·rw[zB hx,j8];by_cases hu:Um held cl x
   ·rw[Vl hu,Vl ((h _ _).2 (.inl hu))]
   ·rw[Q3 hu,Q3 λa=>by rcases(h _ _).1 a with a|⟨_,a⟩;exact hu a;exact hx a]
 ·rw[zB hk,j8];by_cases hu:Um held k x
  ·rw[Vl hu,Vl ((h _ _).2 (.inl hu))]
  ·rw[Q3 hu,Q3 λa=>by rcases(h _ _).1 a with a|⟨a,_⟩;exact hu a;exact hk a.symm]
theorem Dg {held held':List Pc}{cl:Int}{l:List Int}(hn:l.Nodup)(h0:∀x∈l,Um held cl x)(h:∀k x,Um held' k x↔Um held k x/\¬(k=cl/\x∈l))(k x:Int):kM held k x=kM held' k x+(if cl=k then l.count x else 0):=by
 by_cases hk:cl=k
 ·subst hk;rw[zC rfl,F2 hn];by_cases hx:x∈l
  ·rw[zC hx,Vl (h0 x hx),Q3 λa=>((h _ _).1 a).2 ⟨rfl,hx⟩]
  ·rw[zB hx,j8];by_cases hu:Um held cl x
   ·rw[Vl hu,Vl ((h _ _).2 ⟨hu,λa=>hx a.2⟩)]
   ·rw[Q3 hu,Q3 λa=>hu ((h _ _).1 a).1]
 ·rw[zB hk,j8];by_cases hu:Um held k x
  ·rw[Vl hu,Vl ((h _ _).2 ⟨hu,λa=>hk a.1.symm⟩)]
  ·rw[Q3 hu,Q3 λa=>hu ((h _ _).1 a).1]
theorem Ec {α:Type}(f:α->Nat):∀{l:List α} {t:Nat} {g:α} (g':α),l[t]?=some g->((l.set t g').map f).sum+f g=(l.map f).sum+f g'
 | [],t,g,g',h=>by simp at h
 | a::l,0,g,g',h=>by
  simp only[xP,Option.some.injEq]at h;subst h;simp only[List.set_cons_zero,zS,nA];omega
 | a::l,t+1,g,g',h=>by
  have:=Ec f (l:=l) (t:=t) g' (by simpa using h);simp only[rE,zS,nA];omega
theorem Ak {α:Type}(f:α->Nat){l:List α}{g:α}(h:g∈l):f g<=(l.map f).sum:=by
 induction l with
 | nil=>simp at h
 | cons a l ih=>
  simp only[zS,nA];rcases zW.1 h with rfl|h
  ·omega
  ·have:=ih h;omega
theorem wF (ls:List Li)(k:Nat)(x:Int):lP ls (k:Int) x=(ls.getD k ia).os.count x:=by
 unfold lP;rw[zC O,dE]
theorem C5 {ls:List Li}{j:Nat}(l:Li)(k:Nat)(h:j<ls.length):(ls.set j l).getD k ia=if k=j then l else ls.getD k ia:=by
 rw[zP,mO];by_cases hkj:k=j
 ·subst hkj;simp[h]
 ·rw[zB hkj,zB (Ne.symm hkj),zP]
theorem Sk {ls:List Li}{j:Nat}(l:Li)(h:j<ls.length)(k x:Int):lP (ls.set j l) k x+(if(j:Int)=k then(ls.getD j ia).os.count x else 0)=lP ls k x+(if(j:Int)=k then l.os.count x else 0):=by
 by_cases hk:0<=k
 ·obtain⟨k,rfl⟩:=za hk;rw[wF,wF,C5 l k h];by_cases hjk:j=k
  ·subst hjk;simp;omega
  ·have:¬(j:Int)=(k:Int):=by omega
   rw[zB (Ne.symm hjk),zB this,zB this]
 ·unfold lP;rw[zB hk,zB hk,zB O,zB O]
theorem Vo (k x:Int):lD [] k x=0:=rfl
theorem Kr (b:Bt)(bs:List Bt)(k x:Int):lD (b::bs) k x=(if(b.1:Int)=k then b.2.count x else 0)+lD bs k x:=by
 unfold lD;rw[zS,nA]
theorem CV (a b:List Bt)(k x:Int):lD (a++b) k x=lD a k x+lD b k x:=by
 unfold lD;rw[j4,List.sum_append]
theorem EW {f:bZ->Li->List Int×Li}(hf:∀c l x,(f c l).1.count x+(f c l).2.os.count x=l.os.count x){tb:List bZ}{ls:List Li}(hl:ls.length=tb.length)(k x:Int):lD (QX f tb ls) k x+lP (QS f tb ls) k x=lP ls k x:=by
 have key:∀n,n<=tb.length->lD ((List.range n).filterMap λk=>match tb[k]?,ls[k]? with
  | some c,some l=>if(f c l).1=[]then none else some (k,(f c l).1)
  | _,_=>none) k x=if 0<=k/\k<(n:Int)then(match tb[k.toNat]?,ls[k.toNat]? with
  | some c,some l=>(f c l).1.count x
  | _,_=>0)else 0:=by
  intro n
  induction n with
  | zero=>intro _;rw[zB O];rfl
  | succ n i=>
   intro hn;have i:=i O;rw[pU,wq,CV,i];have d:tb[n]?=some tb[n]:=cV O;have a:ls[n]?=some ls[n]:=cV O;have e:lD ([n].filterMap λk=>match tb[k]?,ls[k]? with
    | some c,some l=>if(f c l).1=[]then none else some (k,(f c l).1)
    | _,_=>none) k x=if(n:Int)=k then(f tb[n] ls[n]).1.count x else 0:=by
    rw[An,d,a];simp only;by_cases he:(f tb[n] ls[n]).1=[]
    ·rw[zC he,he];simp[Vo]
    ·rw[zB he];simp only[List.filterMap_nil,Kr,Vo,j8]
   rw[e];by_cases b:0<=k/\k<(n:Int)
   ·rw[zC b,zB (show ¬(n:Int)=k by omega),j8,zC (show 0<=k/\k<((n+1:Nat):Int)from⟨b.1,O⟩)]
   ·rw[zB b,zH];by_cases g:(n:Int)=k
    ·subst g;rw[zC rfl,zC (show(0:Int)<=(n:Int)/\(n:Int)<((n+1:Nat):Int)from⟨O,O⟩),dE,d,a]
    ·rw[zB g,zB O]
 have b:=key tb.length (zD _);have e:QX f tb ls=(List.range tb.length).filterMap λk=>match tb[k]?,ls[k]? with
  | some c,some l=>if(f c l).1=[]then none else some (k,(f c l).1)
  | _,_=>none:=rfl
 rw[e,b];by_cases hk:0<=k
 ·obtain⟨k,rfl⟩:=za hk;rw[wF,wF,dE];by_cases hkl:k<tb.length
  ·have d:tb[k]?=some tb[k]:=cV hkl;have a:ls[k]?=some ls[k]:=cV O;rw[zC ⟨O,O⟩,d,a];simp only;have:(QS f tb ls).getD k ia=(f tb[k] ls[k]).2:=by
    unfold QS;rw[zP,AQ,d,a];rfl
   rw[this,zP,a];exact hf _ _ _
  ·rw[zB O,zH];have b:(QS f tb ls).getD k ia=ia:=by
    unfold QS;rw[zP,zV (by rw[List.length_zipWith];omega)];rfl
   have g:ls.getD k ia=ia:=by rw[zP,zV O];rfl
   rw[b,g]
 ·rw[zB O,zH];unfold lP;rw[zB hk,zB hk]
theorem yO (m:Nat)(l:Li)(x:Int):(gg m l).1.count x+(gg m l).2.os.count x=l.os.count x:=by
 show(l.os.take m).count x+(l.os.drop m).count x=_;rw[←vL,nJ]
theorem Mo (c:bZ)(l:Li)(x:Int):(KE c l).1.count x+(KE c l).2.os.count x=l.os.count x:=yO _ l x
theorem ON (c:bZ)(l:Li)(x:Int):(ZF c l).1.count x+(ZF c l).2.os.count x=l.os.count x:=yO _ l x
theorem N3 (c:bZ)(y:Int)(l:Li)(hl:l.os.length<=255)(x:Int):(dJ c y l).1.count x+(dJ c y l).2.os.count x=l.os.count x + [y].count x:=by
 have a:(eB [y] l).os=l.os++[y]:=by
  unfold eB;rw[zB aE]
 unfold dJ;rw[zB O];split
 ·rw[a,List.count_nil,zH,vL]
 ·rw[yO];have:(mn c (eB [y] l)).os=(eB [y] l).os:=by unfold mn;split<;>rfl
  rw[this,a,vL]
theorem Fk {c:bZ}{l l':Li}{y:Int}(h:QY c l=(some y,l'))(x:Int):l.os.count x=l'.os.count x + [y].count x:=by
 unfold QY at h;split at h
 ·simp at h
 ·rename_i z hz;cases h;have:l.os=l.os.dropLast++[y]:=by
   obtain⟨b,a⟩:=List.getLast?_eq_some_iff.1 hz;rw[a];simp
  conv=>lhs;rw[this]
  rw[vL]
theorem Np {c:bZ}{l l':Li}(h:QY c l=(none,l')):l.os=[]/\l'.os=[]:=by
 unfold QY at h;split at h
 ·rename_i hz;have:l.os=[]:=by simpa using hz
  cases h;refine⟨this,?_⟩;split<;>exact this
 ·simp at h
theorem yJ {live:List (Int×Bk)}{x:Int}(b:Bk)(h:bW live x=none)(k y:Int):lY (dB live x b) k y=lY live k y+(if b.2.2.1=k then[x].count y else 0):=by
 have a:live.any (λe=>e.1==x)=false:=by
  rw[l6];intro e he hx;unfold bW at h;rw[qR,nS]at h;exact h e he hx
 unfold dB;rw[a,zB aA];unfold lY;rw[List.countP_append]
 congr 1
 rw[wa,List.countP_nil,zH];by_cases h1:b.2.2.1=k
 ·by_cases h2:x=y
  ·subst h2;simp[h1]
  ·simp[h1,h2]
 ·simp[h1]
theorem H8 {live:List (Int×Bk)}{x:Int}{b:Bk}(h:bW live x=none){e:Int×Bk}:e∈dB live x b↔e∈live\/e=(x,b):=by
 have a:live.any (λe=>e.1==x)=false:=by
  rw[l6];intro e he hx;unfold bW at h;rw[qR,nS]at h;exact h e he hx
 unfold dB;rw[a,zB aA,zK,zN]
theorem Gf {live:List (Int×Bk)}{x:Int}{e:Int×Bk}:e∈cS live x↔e∈live/\e.1≠x:=by
 unfold cS;rw[zI];simp
theorem Cb:∀{live:List (Int×Bk)} {x:Int} {b:Bk},(live.map (·.1)).Nodup->bW live x=some b->∀k y,lY live k y=lY (cS live x) k y+(if b.2.2.1=k then[x].count y else 0)
 | [],x,b,_,h,_,_=>by simp[bW]at h
 | e::l,x,b,hn,h,k,y=>by
  rw[zS,zr]at hn;by_cases he:e.1=x
  ·have hb:e.2=b:=by
    unfold bW at h;rw[List.find?_cons_of_pos (by simpa using he)]at h;simpa using h
   have hd:cS (e::l) x=l:=by
    unfold cS;rw[uf (by simpa using he),po];intro a ha;have:a.1≠x:=λg=>hn.1 (zE.2 ⟨a,ha,g.trans he.symm⟩);simpa using this
   rw[hd];unfold lY;rw[wa,hb,he]
   congr 1
   by_cases h1:b.2.2.1=k
   ·by_cases h2:x=y
    ·subst h2;simp[h1]
    ·simp[h1,h2]
   ·simp[h1]
  ·have i:bW l x=some b:=by
    unfold bW at h ⊢
    rwa [List.find?_cons_of_neg (by simpa using he)]at h
   have d:=Cb hn.2 i k y;have hd:cS (e::l) x=e::cS l x:=by
    unfold cS;rw[uG (by simpa using he)]
   rw[hd];unfold lY at d ⊢;rw[wa,wa,d];omega
theorem Ct {live:List (Int×Bk)}{e:Int×Bk}(h:e∈live):1<=lY live e.2.2.2.1 e.1:=by
 unfold lY;exact List.countP_pos_iff.2 ⟨e,h,by simp⟩
structure ji (s s':Sp):Prop where
 l:s'.st.length=s.st.length
 z:∀p,gf s'.st p=0↔gf s.st p=0
 w:s'.wd=s.wd
def ik (m:Nat)(g:Th):Prop:=match g.ph with
 | none=>g.bP=[]
 | some (.take k)=>g.bP=[]/\k<m
 | some (.cH k w)=>g.bP=[]/\k<m/\(g.li k).os=[]/\1<=w/\w<=32
 | some (.cJ k w)=>g.bP=[]/\k<m/\(g.li k).os=[]/\1<=w/\w<=32
 | some (.grow k w)=>g.bP=[]/\k<m/\(g.li k).os=[]/\1<=w/\w<=32
 | some .fill=>∃k x xs,g.bP=[(k,x::xs)]/\k<m/\(g.li k).os=[]/\xs.length<=128
 | some (.eD n)=>g.bP=[]/\1<=n/\n<=64
 | some (.find x)=>g.bP=[]/\iE x
 | some (.put k x)=>g.bP=[(k,[x])]/\k<m
 | some .back=>g.bP≠[]
 | some (.dC _ _)=>g.bP=[]
 | some .drain=>g.bP=[]
structure sg (m:Nat) (g:Th):Prop where
 ll:g.ls.length=m
 lo:∀l∈g.ls,fJ l/\l.os.length<=128
 hb:∀b∈g.bP,b.1<m/\b.2≠[]/\b.2.length<=256
 hl:g.bP.length<=41
 ph:ik m g
def Lv (held:List Pc)(e:Int×Bk):Prop:=e.2.1=e.1/\∃p∈held,p.eM=false/\p.cls=e.2.2.2.1/\(p.addr:Int)=e.1/\e.2.2.1=(p.size:Int)/\e.2.2.2.2=(p.k:Int)
def Gv (held:List Pc)(s a:Int):Prop:=∃p∈held,p.eM=false/\p.cls = -1/\(p.addr:Int)=s*256/\a=(p.k:Int)
structure HI (H:Hw) (held:List Pc) (s0:Sp):Prop where
 wi:WI ⟨H.tb,s0,H.bY,held⟩
 mI:ji s0 H.sp
 cn:∀k x,pY H k x=kM held k x
 lk:(H.live.map (·.1)).Nodup
 lv:∀e∈H.live,Lv held e
 gv:∀g∈H.bQ,∀s a,g.ph=some (.dC s a)->Gv held s a
 th:∀g∈H.bQ,sg H.tb.length g
 ok:∀c∈H.tb,c.ok
 a1:1<=H.bY.length
 sl:H.sp.st.length=H.cf.aF
variable {H:Hw}{held:List Pc}{s0:Sp}{t k:Nat}{g:Th}{A:AR}
theorem ji.refl (s:Sp):ji s s:=⟨rfl,λ_=>Iff.rfl,rfl⟩
theorem HI.apart (h:HI H held s0){p q:Pc}(hp:p∈held)(hq:q∈held){x:Nat}(p1:p.addr<=x)(p2:x<p.addr+p.size)(q1:q.addr<=x)(q2:x<q.addr+q.size):p=q:=h.wi.apart hp hq p1 p2 q1 q2
theorem WI.same {W:Wd}(h:WI W){p q:Pc}(hp:p∈W.held)(hq:q∈W.held)(e:p.addr=q.addr):p=q:=by
 have a:=(h.size_pos hp).1;have b:=(h.size_pos hq).1;exact h.apart hp hq (x:=p.addr) (zD _) O O O
theorem WI.um {W:Wd}(h:WI W){p:Pc}(hp:p∈W.held){k x:Int}(hu:Um W.held k x)(e:(p.addr:Int)=x):p.eM=false/\p.cls=k:=by
 obtain⟨q,a,d,b,g⟩:=hu;obtain rfl:=h.same hp a O;exact⟨d,b⟩
theorem HI.mJ (h:HI H held s0){e:Int×Bk}(he:e∈H.live):Um held e.2.2.2.1 e.1:=by
 obtain⟨_,p,d,g,a,b,_⟩:=h.lv e he;exact⟨p,d,g,a,b⟩
theorem HI.oL (h:HI H held s0){g:Th}(hg:g∈H.bQ)(k x:Int):gI g k x<=kM held k x:=by
 rw[←h.cn];unfold pY;have:=Ak (λg=>gI g k x) hg;omega
theorem HI.pN (h:HI H held s0){g:Th}(hg:g∈H.bQ){k x:Int}(hc:1<=gI g k x):Um held k x:=BL (zh hc (h.oL hg k x))
theorem HI.lO (h:HI H held s0){g:Th}(hg:g∈H.bQ){k x:Int}(hc:1<=gI g k x):bW H.live x=none:=by
 cases hm:bW H.live x with
 | none=>rfl
 | some b=>
  have d:=Vj hm;have p:=h.pN hg hc;obtain⟨q,i,w,m,u⟩:=h.mJ d;have r:k=b.2.2.1:=by
   have:=(h.wi.um (W:=⟨H.tb,s0,H.bY,held⟩) i p u).2;exact this.symm.trans m
  have j:=Ct d;have a:=h.cn k x;have s:=FX held k x;have e:=Ak (λg=>gI g k x) hg;simp only at j e;unfold pY at a;rw[r]at a s e hc;omega
theorem HI.tu (h:HI H held s0){x:Int}(hn:∀k,¬Um held k x):bW H.live x=none:=by
 cases hm:bW H.live x with
 | none=>rfl
 | some b=>exact(hn _ (h.mJ (Vj hm))).elim
theorem HI.fB (h:HI H held s0)(hg:H.bQ[t]?=some g){g':Th}{live':List (Int×Bk)}{s0' sp':Sp}{ars':List AR}{held':List Pc}(wi:WI ⟨H.tb,s0',ars',held'⟩)(mI:ji s0' sp')(hsl:sp'.st.length=H.sp.st.length)(hl:ars'.length=H.bY.length)
 (sub:∀p∈held',p.eM=false->p∈held\/∀k,¬Um held k (p.addr:Int))
 (cn:∀k x,lY live' k x+gI g' k x+kM held k x=lY H.live k x+gI g k x+kM held' k x)
 (lk:(live'.map (·.1)).Nodup) (lv:∀e∈live',e∈H.live\/Lv held' e) (gv:∀s a,g'.ph=some (.dC s a)->Gv held' s a) (th:sg H.tb.length g') :
 HI {H with live:=live',sp:=sp',bY:=ars',bQ:=H.bQ.set t g'} held' s0':=by
 have u:∀k x,pY {H with live:=live',sp:=sp',bY:=ars',bQ:=H.bQ.set t g'} k x=kM held' k x:=λk x=>by
  have d:=h.cn k x;have r:=cn k x;have b:=Ec (λg=>gI g k x) g' hg;unfold pY at d ⊢;simp only at b ⊢;omega
 have G:=(cW.1 hg).1;have bS:∀p∈held,p.eM=false->Um held' p.cls (p.addr:Int)->p∈held':=λp m D ⟨q,A,d,r,b⟩=>by
  rcases sub q A d with hs|hs
  ·have:q=p:=h.wi.same (W:=⟨H.tb,s0,H.bY,held⟩) hs m O;rw[←this];exact A
  ·exact(hs p.cls ⟨p,m,D,rfl,b.symm⟩).elim
 refine⟨wi,mI,u,lk,λe B=>?_,λw i s a m=>?_,λw i=>?_,h.ok,by simp only;rw[hl];exact h.a1,hsl.trans h.sl⟩
 ·rcases lv e B with he'|he'
  ·obtain⟨C,p,m,d,r,b,y⟩:=h.lv e he';refine⟨C,p,bS p m d ?_,d,r,b,y⟩;rw[r,b];apply BL;rw[←u];have:1<=lY live' e.2.2.2.1 e.1:=Ct B;unfold pY;simp only;omega
  ·exact he'
 ·rcases List.mem_iff_getElem?.1 i with⟨j,hj⟩;rcases KN hj with⟨rfl,rfl,_⟩|⟨hne,hj'⟩
  ·exact gv s a m
  ·obtain⟨p,z,d,r,b,y⟩:=h.gv w (zG hj') s a m;refine⟨p,bS p z d ?_,d,r,b,y⟩;rw[r,b];apply BL;rw[←u];have E:=Ak (λg=>gI g (-1) (s*256)) i;have F:1<=gI w (-1) (s*256):=by unfold gI;rw[m];simp[jC]
   unfold pY;simp only at E ⊢;omega
 ·rcases List.mem_iff_getElem?.1 i with⟨j,hj⟩;rcases KN hj with⟨rfl,rfl,_⟩|⟨hne,hj'⟩
  ·exact th
  ·exact h.th w (zG hj')
theorem HI.kf (h:HI H held s0)(hg:H.bQ[t]?=some g){g':Th}{live':List (Int×Bk)}(cn:∀k x,lY live' k x+gI g' k x=lY H.live k x+gI g k x)(lk:(live'.map (·.1)).Nodup)(lv:∀e∈live',e∈H.live\/Lv held e)
 (gv:∀s a,g'.ph=some (.dC s a)->Gv held s a) (th:sg H.tb.length g'):HI {H with live:=live',bQ:=H.bQ.set t g'} held s0:=
 h.fB hg h.wi h.mI rfl rfl (λp b _=>.inl b) (λk x=>by have:=cn k x;omega) lk lv gv th
theorem Lo {A:AR}{x:Int}:GG A x=true↔0<=x/\A.f x.toNat≠0:=by
 unfold GG AR.f gf;simp
theorem WI.owner {W:Wd}(h:WI W){p:Pc}(hp:p∈W.held){x:Nat}(h1:p.addr<=x)(h2:x<p.addr+p.size):XO W.bY (x:Int)=(p.k:Int):=by
 obtain⟨A,b,_⟩:=h.hf p hp;have g:=h.qI hp b h1 h2;have a:=(cW.1 b).1;have own:∀(j:Nat) (B:AR),W.bY[j]?=some B->(GG B ((x:Int)/256)=true↔j=p.k):=λj B d=>by
  have e:((x:Int)/256).toNat=x/256:=by omega
  rw[Lo,e];constructor
  ·rintro⟨_,hf⟩;exact h.one (x/256) j p.k B A d b hf O
  ·rintro rfl;rw[b]at d;cases d;exact⟨O,O⟩
 unfold XO;rw[zB O];have hf:W.bY.findIdx? (λA=>GG A ((x:Int)/256))=some p.k:=by
  rw[nm];refine⟨a,(own p.k _ (cV a)).2 rfl,λj i=>?_⟩;have:=own j W.bY[j] (cV O);intro hx;have:=this.1 hx;omega
 rw[hf]
theorem HI.owner (h:HI H held s0){p:Pc}(hp:p∈held){x:Nat}(h1:p.addr<=x)(h2:x<p.addr+p.size):XO H.bY (x:Int)=(p.k:Int):=h.wi.owner (W:=⟨H.tb,s0,H.bY,held⟩) hp h1 h2
theorem HI.oz (h:HI H held s0){p:Pc}(hp:p∈held):XO H.bY (p.addr:Int)=(p.k:Int):=h.owner hp (zD _) (by have:=(h.wi.size_pos (W:=⟨H.tb,s0,H.bY,held⟩) hp).1;omega)
theorem HI.i63 (h:HI H held s0){k x:Int}(hu:Um held k x):iE x/\0<=x/\0<=XO H.bY x:=by
 obtain⟨p,a,_,_,rfl⟩:=hu;have:=(h.wi.jE (W:=⟨H.tb,s0,H.bY,held⟩) a).1;refine⟨by unfold iE;omega,O,?_⟩;rw[h.oz a];omega
end Go.Ar
namespace Go.Ar
open Go.Vc (bW dB cS)
open Go.Bu (Zb)
structure KS (s s':Sp):Prop where
 l:s'.st.length=s.st.length
 k:∀p,gf s.st p≠0->gf s'.st p≠0/\∀w,w/32=p->s'.wd w=s.wd w
theorem KS.refl (s:Sp):KS s s:=⟨rfl,λp a=>⟨a,λ_ _=>rfl⟩⟩
theorem KS.trans {a b c:Sp}(h:KS a b)(k:KS b c):KS a c:=⟨k.l.trans h.l,λp d=>⟨(k.k p (h.k p d).1).1,λw e=>((k.k p (h.k p d).1).2 w e).trans ((h.k p d).2 w e)⟩⟩
variable {s s' sp sp' s0 s0':Sp}{A B:AR}{k:Nat}
theorem ji.mz (h:ji s s'):s'.st.map (λx=>decide (x=0))=s.st.map λx=>decide (x=0):=by
 refine zo λi=>?_;rw[zd,zd];have a:=h.z i;unfold gf at a;rw[zP,zP]at a;by_cases hi:i<s.st.length
 ·have b:i<s'.st.length:=by rw[h.l];exact hi
  rw[cV hi,cV b]at a ⊢;simp only[pH]at a;simp[a]
 ·have d:=h.l;rw[zV O,zV O]
theorem Lu {l l':List Nat}(h:l'.map (λx=>decide (x=0))=l.map λx=>decide (x=0))(a m:Nat)(f:Bool->Bool):((l'.drop a).take m).any (λx=>f (decide (x=0)))=((l.drop a).take m).any λx=>f (decide (x=0)):=by
 have e:∀l:List Nat,((l.drop a).take m).any (λx=>f (decide (x=0)))=(((l.map λx=>decide (x=0)).drop a).take m).any f:=λl=>by
  rw[←List.map_drop,←List.map_take,List.any_map];rfl
 rw[e,e,h]
theorem ji.eZ (h:ji s s')(a m:Int):eZ s' a m=eZ s a m:=by
 unfold Go.Ar.eZ;rw[h.l];have:=Lu h.mz a.toNat m.toNat (λb=>!b);have e:∀l:List Nat,l.any (λx=>x != 0)=l.any λx=>!decide (x=0):=λl=>by
  refine congrArg l.any (funext λx=>?_);cases x<;>rfl
 rw[e,e,this]
theorem ji.set (h:ji s s'){a m v:Nat}(hl:a+m<=s.st.length):ji (s.set a m v) (s'.set a m v):=by
 refine⟨by simp[Sp.set,Kq,h.l],λp=>?_,?_⟩
 ·show gf (fZ s'.st a (a+m) v) p=0↔gf (fZ s.st a (a+m) v) p=0;rw[tV (by rw[h.l];exact hl),tV hl];split
  ·exact Iff.rfl
  ·exact h.z p
 ·show(λw=>if a*32<=w/\w<(a+m)*32 then 0 else s'.wd w)=_
  rw[h.w];rfl
theorem Mr {n:Nat}{a m:Int}(h:Zb n a m=true):a.toNat+m.toNat<=n:=by
 by_cases h0:0<=a/\0<=m
 ·obtain⟨a,rfl⟩:=za h0.1;obtain⟨m,rfl⟩:=za h0.2;rw[dE,dE];exact(Ua.1 h).2
 ·exfalso;unfold Zb at h;simp at h;omega
theorem ji.fS (h:ji s s')(a m:Int):ji (fS s a m) (fS s' a m):=by
 unfold Go.Ar.fS;rw[h.eZ];split
 ·rename_i h0;refine h.set ?_;unfold Go.Ar.eZ at h0;split at h0
  ·rename_i hr;exact Mr hr
  ·simp at h0
 ·exact h
theorem Cs (s:Sp)(a m:Nat):KS s (fS s (a:Int) (m:Int)):=by
 by_cases h:eZ s (a:Int) (m:Int)=0
 ·have j:=G0 h;obtain⟨r,g,i,_⟩:=DI h;refine⟨r,λp d=>?_⟩;have b:¬(a<=p/\p<a+m):=λe=>d (j.2.2 p e.1 e.2);exact⟨by rw[g,zB b];exact d,λw u=>i w O⟩
 ·unfold fS;rw[zB h];exact KS.refl s
theorem ji.cY (h:ji s s')(size:Nat):cY s' size=cY s size:=by
 unfold Go.Ar.cY;rw[h.l]
 congr 1
 funext x
 rw[h.eZ]
theorem ji.cZ (h:ji s s')(A:AR)(m a no:Nat):(cZ A s' m a no).1=(cZ A s m a no).1/\(cZ A s' m a no).2.1=(cZ A s m a no).2.1/\ji (cZ A s m a no).2.2 (cZ A s' m a no).2.2/\KS s' (cZ A s' m a no).2.2:=by
 unfold Go.Ar.cZ;split
 ·exact⟨rfl,rfl,h,KS.refl _⟩
 ·unfold Uv;rw[h.cY];cases hg:Go.Ar.cY s (QP (max m a))with
  | none=>exact⟨rfl,rfl,h,KS.refl _⟩
  | some x=>
   simp only;split
   ·exact⟨rfl,rfl,h.fS _ _,Cs _ _ _⟩
   ·exact⟨rfl,rfl,h.fS _ _,Cs _ _ _⟩
theorem ji.cL (h:ji s s')(A:AR)(k:Int):(cL A s' k).1=(cL A s k).1/\KA A s' k=KA A s k/\ji (cL A s k).2 (cL A s' k).2/\KS s' (cL A s' k).2:=by
 unfold Go.Ar.cL KA;split
 ·split
  ·rename_i c ss _ _;obtain⟨e,b,d,a⟩:=h.cZ A c.aF 1 (k.toNat+1);cases e1:Go.Ar.cZ A s c.aF 1 (k.toNat+1)with
   | mk o1 r1=>cases e2:Go.Ar.cZ A s' c.aF 1 (k.toNat+1)with
    | mk o2 r2=>
     obtain⟨i,m⟩:=r1;obtain⟨g,j⟩:=r2;rw[e1,e2]at e b d;rw[e2]at a;simp only at e b d a;subst e;subst b;cases o2<;>exact⟨rfl,rfl,d,a⟩
  ·exact⟨rfl,rfl,h,KS.refl _⟩
 ·exact⟨rfl,rfl,h,KS.refl _⟩
theorem ji.cA (h:ji s s')(A:AR)(m a:Int):(cA A s' m a).1=(cA A s m a).1/\Qi A s' m a=Qi A s m a/\ZU A s' m a=ZU A s m a/\ji (cA A s m a).2 (cA A s' m a).2/\KS s' (cA A s' m a).2:=by
 unfold Go.Ar.cA Qi ZU;split
 ·obtain⟨g,d,e,b⟩:=h.cZ A m.toNat a.toNat 41;cases e1:Go.Ar.cZ A s m.toNat a.toNat 41 with
  | mk o1 r1=>cases e2:Go.Ar.cZ A s' m.toNat a.toNat 41 with
   | mk o2 r2=>
    obtain⟨j,r⟩:=r1;obtain⟨i,p⟩:=r2;rw[e1,e2]at g d e;rw[e2]at b;simp only at g d e b;subst g;subst d;cases o2<;>exact⟨rfl,rfl,rfl,e,b⟩
 ·exact⟨rfl,rfl,rfl,h,KS.refl _⟩
variable {W:Wd}
theorem R3 (h:WI W){cl:Int}{l:List Int}(ho:je W.held k cl l=true)(c x:Int):Um (W.held.filter λp=>!dW k cl l p) c x↔Um W.held c x/\¬(c=cl/\x∈l):=by
 constructor
 ·rintro⟨p,hp,h1,h2,h3⟩;obtain⟨a,d⟩:=zI.1 hp;refine⟨⟨p,a,h1,h2,h3⟩,?_⟩;rintro⟨rfl,b⟩;obtain⟨q,g,e⟩:=(Kx.1 ho).1 x b;obtain⟨i,u,s,r⟩:=Kt.1 e;obtain rfl:=h.same (p:=p) (q:=q) a g O;have:dW k c l p=true:=ZS.2 ⟨i,h2,by rw[h3];exact b⟩;rw[this]at d;cases d
 ·rintro⟨⟨p,hp,h1,h2,h3⟩,d⟩;refine⟨p,zI.2 ⟨hp,?_⟩,h1,h2,h3⟩;have:dW k cl l p=false:=ng.2 λb=>by
   obtain⟨_,j,m⟩:=ZS.1 b;exact d ⟨h2.symm.trans j,by rw[←h3];exact m⟩
  rw[this];rfl
theorem LI {held:List Pc}{cl:Int}{l:List Int}(ho:je held k cl l=true):∀x∈l,Um held cl x:=λx g=>by
 obtain⟨q,b,a⟩:=(Kx.1 ho).1 x g;obtain⟨j,i,d,e⟩:=Kt.1 a;exact⟨q,b,e,i,d⟩
theorem OM (h:WI W){cl:Int}{l:List Int}(ho:je W.held k cl l=true)(c x:Int):Um (Hi W.held k cl l true) c x↔Um W.held c x/\¬(c=cl/\x∈l):=by
 constructor
 ·rintro⟨p,hp,h1,h2,h3⟩;obtain⟨q,b,rfl⟩:=Qx.1 hp;by_cases hof:dW k cl l q=true
  ·rw[zC hof]at h1;cases h1
  ·rw[zB hof]at h1 h2 h3;refine⟨⟨q,b,h1,h2,h3⟩,?_⟩;rintro⟨rfl,hx⟩;obtain⟨r,g,a⟩:=(Kx.1 ho).1 x hx;obtain⟨d,s,m,j⟩:=Kt.1 a;obtain rfl:=h.same b g O;exact hof (ZS.2 ⟨d,h2,by rw[h3];exact hx⟩)
 ·rintro⟨⟨p,hp,h1,h2,h3⟩,hn⟩;refine⟨p,Qx.2 ⟨p,hp,?_⟩,h1,h2,h3⟩;rw[zB];intro hx;obtain⟨_,e,i⟩:=ZS.1 hx;exact hn ⟨h2.symm.trans e,by rw[←h3];exact i⟩
theorem OY {held:List Pc}{cl:Int}{l:List Int}:∀p∈Hi held k cl l true,p.eM=false->p∈held:=λp d a=>by
 obtain⟨q,b,rfl⟩:=Qx.1 d;by_cases hof:dW k cl l q=true
 ·rw[zC hof]at a;cases a
 ·rw[zB hof];exact b
theorem Pa (h:WI W)(hk:W.bY[k]?=some A){j:Nat}:(∀x∈Yq A (j:Int),∀c,¬Um W.held c x)/\(Yq A (j:Int)).Nodup/\(∀c x,Um (Hi W.held k j (Yq A (j:Int)) false) c x↔Um W.held c x\/(c=j/\x∈Yq A (j:Int))) ∧
 (∀p∈Hi W.held k j (Yq A (j:Int)) false,p.eM=false->p∈W.held\/∀c,¬Um W.held c (p.addr:Int)):=by
 obtain⟨o,e1,e2,H,J,K⟩:=Cq (h.ga k A hk) (j:Int);rw[dE]at e2;have y:∀x∈Yq A (j:Int),∃q∈W.held,q.k=k/\q.cls=j/\(q.addr:Int)=x/\q.eM=true:=λx d=>by
  have u:=e2 x d;obtain⟨t,ht,g⟩:=u;have r:j<A.tb.length:=by rw[←(h.ga k A hk).lt];exact(cW.1 ht).1
  obtain⟨c,D,L,w,E⟩:=(h.ga k A hk).cl r;have s:fM A j x:=(KO w).2 ((h.ga k A hk).lZ j c D t w ht x g);obtain⟨q,a,m,i,b⟩:=h.ht k A hk j x s;obtain⟨_,_,_,_,G⟩:=h.cls a i (by rw[m];exact hk);exact⟨q,a,m,i,b,G.2 (by rw[b];exact⟨t,ht,g⟩)⟩
 have new:∀x∈Yq A (j:Int),∀c,¬Um W.held c x:=λx d c B=>by
  obtain⟨q,a,_,_,b,z⟩:=y x d;have:=(h.um a B b).1;rw[z]at this;cases this
 refine⟨new,H,λc x=>⟨?_,?_⟩,λp e M=>?_⟩
 ·rintro⟨p,e,h1,h2,h3⟩;obtain⟨q,a,rfl⟩:=Qx.1 e;by_cases hof:dW k (j:Int) (Yq A (j:Int)) q=true
  ·rw[zC hof]at h2 h3;obtain⟨_,F,C⟩:=ZS.1 hof;exact .inr ⟨h2.symm.trans F,by rw[←h3];exact C⟩
  ·rw[zB hof]at h1 h2 h3;exact .inl ⟨q,a,h1,h2,h3⟩
 ·rintro(⟨p,e,h1,h2,h3⟩|⟨rfl,d⟩)
  ·refine⟨p,Qx.2 ⟨p,e,?_⟩,h1,h2,h3⟩;split
   ·rw[←h1]
   ·rfl
  ·obtain⟨q,a,m,i,b,z⟩:=y x d;refine⟨{q with eM:=false},Qx.2 ⟨q,a,?_⟩,rfl,i,b⟩;rw[zC (ZS.2 ⟨m,i,by rw[b];exact d⟩)]
 ·obtain⟨q,a,rfl⟩:=Qx.1 e;by_cases hof:dW k (j:Int) (Yq A (j:Int)) q=true
  ·rw[zC hof];exact .inr (new _ (ZS.1 hof).2.2)
  ·rw[zB hof];exact .inl a
theorem BE {tb:List bZ}{bY:List AR}{sp:Sp}{held new:List Pc}(h:WI ⟨tb,sp,bY,held++new⟩):∀p∈new,∀c,¬Um held c (p.addr:Int):=by
 rintro p d c ⟨q,b,_,_,g⟩;have e:=h.same (p:=p) (q:=q) (nR _ d) (ky _ b) O;have a:=h.hk;simp only[j4]at a;rw[nK]at a;exact a.2.2 q.key (zE.2 ⟨q,b,rfl⟩) p.key (zE.2 ⟨p,d,rfl⟩) (by rw[e])
theorem EZ {held new:List Pc}{cl:Int}{l:List Int}(h1:∀p∈new,p.eM=false/\p.cls=cl/\(p.addr:Int)∈l)(h2:∀x∈l,∃p∈new,(p.addr:Int)=x)(c x:Int):Um (held++new) c x↔Um held c x\/(c=cl/\x∈l):=by
 constructor
 ·rintro⟨p,b,a1,a2,a3⟩;rcases zK.1 b with b|b
  ·exact .inl ⟨p,b,a1,a2,a3⟩
  ·obtain⟨_,g,d⟩:=h1 p b;exact .inr ⟨a2.symm.trans g,by rw[←a3];exact d⟩
 ·rintro(⟨p,b,a⟩|⟨rfl,hx⟩)
  ·exact⟨p,ky _ b,a⟩
  ·obtain⟨p,b,e⟩:=h2 x hx;exact⟨p,nR _ b,(h1 p b).1,(h1 p b).2.1,e⟩
theorem FA {tb:List bZ}{bY:List AR}{sp:Sp}{held new:List Pc}(h:WI ⟨tb,sp,bY,held++new⟩):∀p∈held++new,p.eM=false->p∈held\/∀c,¬Um held c (p.addr:Int):=λp a _=>by
 rcases zK.1 a with a|a
 ·exact .inl a
 ·exact .inr (BE h p a)
theorem KI {ss:List cF}:∀{i:Nat},Y9 ss i=none->∀k,k<i->∀s,ss[k]?=some s->¬s.many<s.tk.length
 | 0,_,k,hk,_,_=>by omega
 | i+1,h,k,hk,s,hs=>by
  unfold Y9 at h;by_cases hki:k=i
  ·subst hki;rw[hs]at h;simp only at h;intro hlt;rw[zC hlt]at h;split at h
   ·split at h
    ·split at h<;>cases h
    ·cases h
   ·cases h
  ·cases hi:ss[i]? with
   | none=>
    rw[hi]at h;exact KI h k O s hs
   | some x=>
    rw[hi]at h;simp only at h;split at h
    ·split at h
     ·split at h
      ·split at h<;>cases h
      ·cases h
     ·exact KI (by assumption) k O s hs
    ·exact KI h k O s hs
theorem O3 (h:GA A)(hw:Ow A sp){j:Nat}(hE:KA A sp (j:Int)=0){w:Nat}(h1:1<=w):Yb (cL A sp (j:Int)).1 (j:Int) (w:Int)≠[]:=by
 rcases CY h hw (j:Int)with⟨_,hn,_⟩|⟨j',c,ss,x,A1,sp1,hj,hk,hk1,_,e,hst,r1,r2,r3,_,hd,hS⟩
 ·exact(hn hE).elim
 ·obtain rfl:j=j':=by omega
  have a:Cl (cL A sp (j:Int)).1 j c (ie c ss x):=by
   rw[e];have d:Cl (dP A1 x c.aF (j+1)) j c ss:=hk1;exact UK d _
  have E:=hS.ga.cE j c _ a;have b:(⟨x,List.replicate c.n false⟩:cF)∈ie c ss x:=Ve.2 (.inl rfl);have g:(cL A sp (j:Int)).1.ck (j:Int)=true:=U6.2 ⟨j,rfl,a.lt⟩;unfold Yb Qp Vh;rw[g,zC rfl,zB (show ¬((w:Int)<0) by omega),zC rfl,dE,dE,a.1,a.2];simp only;obtain⟨w,rfl⟩:∃v,w=v+1:=⟨w-1,O⟩;cases ho:iS c (ie c ss x)with
  | some r=>
   obtain⟨y,C⟩:=r;rw[Ht ho];simp
  | none=>
   exfalso;unfold iS iF at ho;obtain⟨l,z⟩:=zQ b;have p:=(cW.1 z).1;have u:(⟨x,List.replicate c.n false⟩:cF).many<(⟨x,List.replicate c.n false⟩:cF).tk.length:=by
    have:=E.ok.q8;simp[cF.many,xR];omega
   cases hb:Y9 (ie c ss x) (ie c ss x).length with
   | none=>exact KI hb l p _ z u
   | some i=>
    rw[hb]at ho;obtain⟨_,s,B,m⟩:=QH hb;obtain⟨r,D,_⟩:=Gp m;simp only[B,D]at ho;cases ho
end Go.Ar
namespace Go.Ar
open Go.Vc (bW dB cS)
variable {H:Hw}{held:List Pc}{s0:Sp}{t k:Nat}{g:Th}{A:AR}{c:bZ}
theorem ZT {p:Ph}{H1:Hw}{g1:Th}{nx:Option Ph}{a e:Int}(ht:t<H.bQ.length)(hs:Wt H t p=({H1 with bQ:=H.bQ.set t g1},nx,a,e)):Qr H t p = {H1 with bQ:=H.bQ.set t {g1 with ph:=nx}}:=by
 unfold Qr;rw[hs];show Hw.dV _ t _=_;rw[Zr (g:=g1) (by simp[ht])];simp only[m9]
structure iw (H:Hw) (t:Nat) (p:Ph):Prop where
 ok:uo H t p
 hi:∃held s0,HI (Qr H t p) held s0
 ks:KS H.sp (Qr H t p).sp
theorem iw.mk' {p:Ph}(hg:H.bQ[t]?=some g)(hl:g.bP.length<=41)(h1:tO H t p){H':Hw}{held':List Pc}{s0':Sp}(e:Qr H t p=H')(h2:HI H' held' s0')(h3:KS H.sp H'.sp):iw H t p:=
 ⟨⟨h1,λb a=>by rw[hg]at a;cases a;omega⟩,⟨held',s0',by rw[e];exact h2⟩,by rw[e];exact h3⟩
def Rq (tb:List bZ)(g:Th):Ph->Int->Int->Prop
 | .take k,cl,sz=>cl=k/\∃c,tb[k]?=some c/\sz=c.size
 | .cH k _,cl,sz=>cl=k/\∃c,tb[k]?=some c/\sz=c.size
 | .cJ k _,cl,sz=>cl=k/\∃c,tb[k]?=some c/\sz=c.size
 | .grow k _,cl,sz=>cl=k/\∃c,tb[k]?=some c/\sz=c.size
 | .fill,cl,sz=>∃k xs r c,g.bP=(k,xs)::r/\cl=k/\tb[k]?=some c/\sz=c.size
 | .eD m,cl,sz=>cl = -1/\sz=((m*256:Nat):Int)
 | _,_,_=>False
def G6 (H:Hw)(t:Nat):Ph->Nat
 | .take _=>5
 | .cH _ _=>4
 | .cJ k w=>if Yb (H.eA t) (k:Int) (w:Int)=[]then 3 else 1
 | .grow _ _=>2
 | _=>0
def tx (H:Hw)(t:Nat)(p:Ph)(cl sz:Int):Prop:=
 (∃p' g',(Wt H t p).2.1=some p'/\(Qr H t p).live=H.live/\(Qr H t p).bQ[t]?=some g'/\Rq H.tb g' p' cl sz/\G6 (Qr H t p) t p'<G6 H t p) ∨
 ((Wt H t p).2.1=none/\(Wt H t p).2.2.2≠0/\(Wt H t p).2.2.1=0/\(Qr H t p).live=H.live) ∨
 ((Wt H t p).2.1=none/\(Wt H t p).2.2.2=0/\bW H.live (Wt H t p).2.2.1=none/\(Qr H t p).live=dB H.live (Wt H t p).2.2.1 ((Wt H t p).2.2.1,sz,cl,XO (Qr H t p).bY (Wt H t p).2.2.1))
theorem HI.mem (h:HI H held s0)(hg:H.bQ[t]?=some g):g∈H.bQ:=zG hg
theorem HI.jW (h:HI H held s0)(t:Nat):H.own t<H.bY.length:=ug _ (by have:=h.a1;omega)
theorem HI.eA (h:HI H held s0)(t:Nat):H.bY[H.own t]?=some (H.eA t):=by
 have a:=cV (h.jW t);rw[BR a];exact a
theorem HI.qy (h:HI H held s0):H.tb.length<=40:=by
 have a:=h.eA 0;have:=(h.wi.ga _ _ a).tb;rw[h.wi.tb _ _ a]at this;exact this
theorem HI.cls (h:HI H held s0)(hk:k<H.tb.length):∃c,H.tb[k]?=some c/\c.ok:=⟨H.tb[k],cV hk,h.ok _ (j7 hk)⟩
theorem sg.li {m:Nat}(h:sg m g)(hk:k<m):∃l,g.ls[k]?=some l/\g.li k=l/\fJ l/\l.os.length<=128:=by
 have a:=cV (l:=g.ls) (i:=k) (by rw[h.ll];exact hk);have:=h.lo _ (j7 (by rw[h.ll];exact hk));exact⟨_,a,yd a,this.1,this.2⟩
theorem sg.gM {m:Nat}(h:sg m g){l':Li}(h1:fJ l')(h2:l'.os.length<=128):(g.ls.set k l').length=m/\∀l∈g.ls.set k l',fJ l/\l.os.length<=128:=by
 refine⟨by rw[nG];exact h.ll,λl a=>?_⟩;rcases xu a with a|rfl
 ·exact h.lo l a
 ·exact⟨h1,h2⟩
theorem O5 {ls:List Li}{l':Li}{hs:List Bt}{ph:Option Ph}(hk:k<ls.length):(⟨ls.set k l',hs,ph⟩:Th).li k=l':=by
 unfold Th.li;rw[C5 l' k hk,zC rfl]
theorem HI.wV (h:HI H held s0){y:Int}(hu:Um held (k:Int) y)(hc:H.tb[k]?=some c):Lv held (y,(y,(c.size:Int),(k:Int),XO H.bY y)):=by
 obtain⟨p,d,j,e,rfl⟩:=hu;obtain⟨A,g,_⟩:=h.wi.hf p d;obtain⟨c',b,i,_⟩:=h.wi.cls d e g;rw[h.wi.tb _ _ g]at b;have a:H.tb[k]?=some c':=b;rw[hc]at a;cases a;exact⟨rfl,p,d,j,e,rfl,by rw[i],by rw[h.oz d]⟩
theorem Gr {ls:List Li}{l:Li}(hl:ls[k]?=some l)(l':Li)(k' x:Int):lP (ls.set k l') k' x+(if(k:Int)=k' then l.os.count x else 0)=lP ls k' x+(if(k:Int)=k' then l'.os.count x else 0):=by
 have:=Sk l' (cW.1 hl).1 k' x;rw[zP,hl]at this;exact this
theorem MD {ls:List Li}{l:Li}(hl:ls[k]?=some l)(x:Int):lP ls (k:Int) x=l.os.count x:=by
 rw[wF,zP,hl];rfl
theorem Nv (h:HI H held s0)(hg:H.bQ[t]?=some g)(hph:g.ph=some (.take k)){cl sz:Int}(hr:Rq H.tb g (.take k) cl sz):iw H t (.take k)/\tx H t (.take k) cl sz:=by
 have G:=(cW.1 hg).1;have b:=h.th g (h.mem hg);obtain⟨Q,w⟩:g.bP=[]/\k<H.tb.length:=by have:=b.ph;unfold ik at this;rw[hph]at this;exact this
 obtain⟨rfl,c,m,rfl⟩:=hr;have r:=h.ok c (zG m);obtain⟨l,hl,i,L,R⟩:=b.li w;have d:=DX r L;have j:=HV hg;cases hT:QY c l with
 | mk o l'=>
  rw[hT]at d;cases o with
  | some y=>
   have u:Wt H t (.take k)=({{H with live:=dB H.live y (y,(c.size:Int),(k:Int),XO H.bY y)}with bQ:=H.bQ.set t {g with ls:=g.ls.set k l'}},none,y,0):=by
    simp only[Wt,j,VV m,i,hT,Vm,Zr hg,Th.gM]
   have e:=ZT G u;have A:1<=gI g (k:Int) y:=by
    have:=Fk hT y;rw[Bg]at this;unfold gI;rw[MD hl];omega
   have P:=h.pN (h.mem hg) A;have N:=h.lO (h.mem hg) A;have C:l'.os.length<=128:=by
    have:l'.os.length<=l.os.length:=by
     unfold QY at hT;split at hT
     ·cases hT
     ·cases hT;simp
    omega
   obtain⟨ll,J⟩:=b.gM (k:=k) d C;have K:=h.kf hg (g':={g with ls:=g.ls.set k l',ph:=none}) (live':=dB H.live y (y,(c.size:Int),(k:Int),XO H.bY y)) (λE x=>by
    rw[yJ _ N];have D:=Gr hl l' E x;have W:=Fk hT x;unfold gI;rw[hph];simp only[jC];by_cases hkk:(k:Int)=E
    ·simp only[hkk,zR]at D ⊢;omega
    ·simp only[hkk,zz]at D ⊢;omega)
    (Go.Vc.gJ h.lk) (λV z=>by
     rcases(H8 N).1 z with z|rfl
     ·exact .inl z
     ·exact .inr (h.wV P m))
    (λs a F=>by cases F) ⟨ll,J,b.hb,b.hl,by unfold ik;exact Q⟩
   refine⟨iw.mk' hg b.hl ⟨w,λU M B=>?_⟩ e K (KS.refl _),.inr (.inr ?_)⟩
   ·rw[j,i,VV m,hT]at B;cases B;exact(h.i63 P).1
   ·rw[e,u];exact⟨rfl,rfl,N,rfl⟩
  | none=>
   have u:Wt H t (.take k)=({H with bQ:=H.bQ.set t {g with ls:=g.ls.set k l'}},some (.cH k (GX c l')),0,0):=by
    simp only[Wt,j,VV m,i,hT,Zr hg,Th.gM]
   have e:=ZT G u;obtain⟨o1,o2⟩:=Np hT;obtain⟨ll,J⟩:=b.gM (k:=k) d (by rw[o2];simp);have p:=d.nr;have S:1<=GX c l'/\GX c l'<=32:=by
    unfold bZ.ok at r;unfold GX;simp only at p;omega
   have K:=h.kf hg (g':={g with ls:=g.ls.set k l',ph:=some (.cH k (GX c l'))}) (live':=H.live) (λE x=>by
    have D:=Gr hl l' E x;rw[o1,o2]at D;unfold gI;rw[hph];simp only[jC];omega) h.lk (λV z=>.inl z) (λs a F=>by cases F) ⟨ll,J,b.hb,b.hl,by
     unfold ik;exact⟨Q,w,by rw[O5 (by rw[b.ll];exact w)];exact o2,S⟩⟩
   refine⟨iw.mk' hg b.hl ⟨w,λU M B=>?_⟩ e K (KS.refl _),.inl ?_⟩
   ·rw[j,i,VV m,hT]at B;cases B
   ·rw[e,u];exact⟨_,_,rfl,rfl,zL G,⟨rfl,c,m,rfl⟩,by simp[G6]⟩
theorem HO (h:GA A)(h0:ZW A (k:Int)=0)(hc:A.tb[k]?=some c):∃x xs,Yq A (k:Int)=x::xs/\xs.length+1=c.batch:=by
 have a:Yq A (k:Int)=(match A.cM[k]? with
  | some t=>t.bs.getLast?.getD []
  | none=>[]):=by unfold Yq;rw[zC h0,dE];rfl
 unfold ZW at h0;rw[dE]at h0;split at h0
 ·split at h0
  ·rename_i t ht;split at h0
   ·cases h0
   ·rename_i hb;rw[ht]at a;simp only at a;have j:t.bs.getLast?=some (t.bs.getLast hb):=List.getLast?_eq_some_getLast hb;rw[j]at a;simp only[pH]at a;have:=h.ot k c t hc ht _ (List.getLast_mem hb);rw[←a]at this;have m:=h.cE;cases hx:Yq A (k:Int)with
    | nil=>
     rw[hx]at this;have e:k<A.tb.length:=(cW.1 hc).1;obtain⟨g,i,_,b,_⟩:=h.cl e;have d:g=c:=Option.some.inj (b.1.symm.trans hc);have:=(h.cE k g i b).ok;unfold bZ.ok at this;simp at *;subst d;omega
    | cons x xs=>exact⟨x,xs,rfl,by rw[hx]at this;simpa using this⟩
  ·cases h0
 ·cases h0
theorem PU (h:HI H held s0)(hg:H.bQ[t]?=some g){w:Nat}(hph:g.ph=some (.cH k w)){cl sz:Int}(hr:Rq H.tb g (.cH k w) cl sz):iw H t (.cH k w)/\tx H t (.cH k w) cl sz:=by
 have B:=(cW.1 hg).1;have d:=h.th g (h.mem hg);obtain⟨G,D,z,S⟩:g.bP=[]/\k<H.tb.length/\(g.li k).os=[]/\1<=w/\w<=32:=by have:=d.ph;unfold ik at this;rw[hph]at this;exact this
 obtain⟨rfl,c,i,rfl⟩:=hr;have J:=h.ok c (zG i);have u:=J;unfold bZ.ok at u;have C:=h.eA t;have ga:=h.wi.ga _ _ C;have m:(H.eA t).tb[k]?=some c:=by rw[h.wi.tb _ _ C];exact i
 have M:tO H t (.cH k w):=⟨D,λA=>by
  obtain⟨x,r,e,_⟩:=HO ga A m;rw[e];simp⟩
 by_cases hcase:w=c.batch/\ZW (H.eA t) (k:Int)=0
 ·obtain⟨rfl,A⟩:=hcase;obtain⟨x,r,L,P⟩:=HO ga A m;have p:Wt H t (.cH k c.batch)=({H.cC (H.own t) (Zv (H.eA t) (k:Int))with bQ:=H.bQ.set t {g with bP:=[(k,x::r)]}},some .fill,0,0):=by
   simp only[Wt,VV i,zR,A,QF,L];rw[Zr (g:=g) (by exact hg),G];rfl
  have e:=ZT (H1:=H.cC (H.own t) (Zv (H.eA t) (k:Int))) B p;obtain⟨N,Q,R,X⟩:=Pa h.wi C (j:=k);have wi:=h.wi.wI C (k:Int);have F:=h.fB hg (g':={g with bP:=[(k,x::r)],ph:=some .fill}) (live':=H.live) wi h.mI rfl (by simp[Wd.put]) X (λU y=>by
   rw[A4 Q (λy V=>N y V _) R,L];unfold gI;rw[hph,G];simp only[jC,Kr,Vo];omega) h.lk (λW K=>.inl K) (λs a E=>by cases E) ⟨d.ll,d.lo,λb hb=>by
    simp only[zN]at hb;subst hb;exact⟨D,by simp,by simp;omega⟩,by simp,by
    unfold ik;exact⟨k,x,r,rfl,D,z,O⟩⟩
  refine⟨iw.mk' hg d.hl M e F (KS.refl _),.inl ?_⟩;rw[e,p];exact⟨_,_,rfl,rfl,zL B,⟨k,x::r,[],c,rfl,rfl,i,rfl⟩,by simp[G6]⟩
 ·have p:Wt H t (.cH k w)=({H with bQ:=H.bQ.set t g},some (.cJ k w),0,0):=by
   have:H.bQ.set t g=H.bQ:=Z7 hg;rw[this];simp only[Wt,VV i];split
   ·split
    ·exact(hcase ⟨by assumption,by assumption⟩).elim
    ·rfl
   ·rfl
  have e:=ZT B p;have F:=h.kf hg (g':={g with ph:=some (.cJ k w)}) (live':=H.live) (λU x=>by
   unfold gI;rw[hph];simp only[jC]) h.lk (λW K=>.inl K) (λs a E=>by cases E) ⟨d.ll,d.lo,d.hb,d.hl,by
    unfold ik;exact⟨G,D,z,S⟩⟩
  refine⟨iw.mk' hg d.hl M e F (KS.refl _),.inl ?_⟩;rw[e,p];refine⟨_,_,rfl,rfl,zL B,⟨rfl,c,i,rfl⟩,?_⟩;simp only[G6];split<;>omega
theorem MX (h:GA A)(j w:Nat):(Yb A (j:Int) (w:Int)).length<=w:=by
 unfold Yb;split
 ·rename_i h0;have b:A.ck (j:Int)=true:=by
   unfold Qp at h0;split at h0
   ·assumption
   ·cases h0
  obtain⟨i,g,e⟩:=U6.1 b;obtain⟨c,d,t,a,m⟩:=h.cl e;have:i=j:=by omega
  subst this;unfold Vh;rw[dE,dE,a.1,a.2];exact(Hs w (h.cE i c d a)).2.2.1
 ·simp
theorem Ou (H:Hw)(t:Nat)(B:AR)(h:H.own t<H.bY.length)(sp:Sp)(bQ:List Th):Hw.eA {H.cC (H.own t) B with sp:=sp,bQ:=bQ} t=B:=by
 refine BR ?_;have:Hw.own {H.cC (H.own t) B with sp:=sp,bQ:=bQ} t=H.own t:=by unfold Hw.own Hw.cC;simp
 rw[this];simp[Hw.cC,h]
theorem OA (h:HI H held s0)(hg:H.bQ[t]?=some g){w:Nat}(hph:g.ph=some (.cJ k w)){cl sz:Int}(hr:Rq H.tb g (.cJ k w) cl sz):iw H t (.cJ k w)/\tx H t (.cJ k w) cl sz:=by
 have C:=(cW.1 hg).1;have d:=h.th g (h.mem hg);obtain⟨E,F,B,N⟩:g.bP=[]/\k<H.tb.length/\(g.li k).os=[]/\1<=w/\w<=32:=by have:=d.ph;unfold ik at this;rw[hph]at this;exact this
 obtain⟨rfl,c,K,rfl⟩:=hr;have L:=h.eA t;have ga:=h.wi.ga _ _ L;have wi:=h.wi.from L (k:Int) (w:Int);have j:=MX ga k w;have u:=(Ij ga (k:Int) (w:Int)).2.2.1;cases hv:Yb (H.eA t) (k:Int) (w:Int)with
 | nil=>
  have r:Wt H t (.cJ k w)=({H.cC (H.own t) (Yu (H.eA t) (k:Int) (w:Int))with bQ:=H.bQ.set t g},some (.grow k w),0,0):=by
   have:H.bQ.set t g=H.bQ:=Z7 hg;rw[this];simp only[Wt,hv,zR,Hw.cC]
  have e:=ZT (H1:=H.cC (H.own t) (Yu (H.eA t) (k:Int) (w:Int))) C r;rw[hv]at wi;simp only[qD,kP]at wi;have D:=h.fB hg (g':={g with ph:=some (.grow k w)}) (live':=H.live) wi h.mI rfl (by simp[Wd.put]) (λp i _=>.inl i) (λP y=>by
   unfold gI;rw[hph];simp only[jC]) h.lk (λQ J=>.inl J) (λs a i=>by cases i) ⟨d.ll,d.lo,d.hb,d.hl,by
    unfold ik;exact⟨E,F,B,N⟩⟩
  refine⟨iw.mk' hg d.hl trivial e D (KS.refl _),.inl ?_⟩;rw[e,r];exact⟨_,_,rfl,rfl,zL C,⟨rfl,c,K,rfl⟩,by simp[G6,hv]⟩
 | cons v vs=>
  have r:Wt H t (.cJ k w)=({H.cC (H.own t) (Yu (H.eA t) (k:Int) (w:Int))with bQ:=H.bQ.set t {g with bP:=[(k,(v::vs).map λ(x:Nat)=>(x:Int))]}},some .fill,0,0):=by
   simp only[Wt,hv,QF];rw[zB aA,Zr (g:=g) (by exact hg),E];rfl
  have e:=ZT (H1:=H.cC (H.own t) (Yu (H.eA t) (k:Int) (w:Int))) C r;rw[hv]at wi j u;have m:((v::vs).map λ(x:Nat)=>(x:Int)).Nodup:=List.Pairwise.map (R:=(· ≠ ·)) _ (λa b G e=>G O) u;have app:=EZ (held:=held) (new:=(v::vs).map λy=>(⟨H.own t,(k:Int),y,oI H.tb (k:Int),false⟩:Pc)) (cl:=(k:Int)) (l:=(v::vs).map λ(x:Nat)=>(x:Int)) (λp i=>by
   obtain⟨y,A,rfl⟩:=zE.1 i;exact⟨rfl,rfl,zE.2 ⟨y,A,rfl⟩⟩) λx M=>by
   obtain⟨y,A,rfl⟩:=zE.1 M;exact⟨_,zE.2 ⟨y,A,rfl⟩,rfl⟩
  have new:=BE wi;have D:=h.fB hg (g':={g with bP:=[(k,(v::vs).map λ(x:Nat)=>(x:Int))],ph:=some .fill}) (live':=H.live) wi h.mI rfl (by simp[Wd.put]) (FA wi) (λP y=>by
   rw[A4 m (λy A=>by
    obtain⟨z,S,rfl⟩:=zE.1 A;exact new ⟨H.own t,(k:Int),z,oI H.tb (k:Int),false⟩ (zE.2 ⟨z,S,rfl⟩) _) app]
   unfold gI;rw[hph,E];simp only[jC,Kr,Vo];omega) h.lk (λQ J=>.inl J) (λs a i=>by cases i) ⟨d.ll,d.lo,λb hb=>by
    simp only[zN]at hb;subst hb;exact⟨F,by simp,by simp at j ⊢;omega⟩,by simp,by
    unfold ik;exact⟨k,(v:Int),vs.map λ(x:Nat)=>(x:Int),rfl,F,B,by simp at j ⊢;omega⟩⟩
  refine⟨iw.mk' hg d.hl trivial e D (KS.refl _),.inl ?_⟩;rw[e,r];refine⟨_,_,rfl,rfl,zL C,⟨k,_,[],c,rfl,rfl,K,rfl⟩,?_⟩;simp[G6,hv]
theorem Ng (h:HI H held s0)(hg:H.bQ[t]?=some g){w:Nat}(hph:g.ph=some (.grow k w)){cl sz:Int}(hr:Rq H.tb g (.grow k w) cl sz):iw H t (.grow k w)/\tx H t (.grow k w) cl sz:=by
 have u:=(cW.1 hg).1;have b:=h.th g (h.mem hg);obtain⟨D,F,A,E⟩:g.bP=[]/\k<H.tb.length/\(g.li k).os=[]/\1<=w/\w<=32:=by have:=b.ph;unfold ik at this;rw[hph]at this;exact this
 obtain⟨rfl,c,G,rfl⟩:=hr;have B:=h.eA t;have ga:=h.wi.ga _ _ B;obtain⟨e1,e2,C,r⟩:=h.mI.cL (H.eA t) (k:Int);have wi:=h.wi.grow B (k:Int);by_cases h0:KA (H.eA t) H.sp (k:Int)=0
 ·have m:Wt H t (.grow k w)=({{H.cC (H.own t) (cL (H.eA t) H.sp (k:Int)).1 with sp:=(cL (H.eA t) H.sp (k:Int)).2}with bQ:=H.bQ.set t g},some (.cJ k w),0,0):=by
   have:H.bQ.set t g=H.bQ:=Z7 hg;rw[this];simp only[Wt,h0,zR,Hw.cC]
  have e:=ZT (H1:={H.cC (H.own t) (cL (H.eA t) H.sp (k:Int)).1 with sp:=(cL (H.eA t) H.sp (k:Int)).2}) u m;have d:=O3 ga (h.wi.ow _ _ B) (j:=k) (by rw[←e2];exact h0) E.1;rw[show(Wd.mk H.tb s0 H.bY held).sp=s0 from rfl,←e1]at d;rw[show(Wd.mk H.tb s0 H.bY held).sp=s0 from rfl,←e1]at wi;have z:=h.fB hg (g':={g with ph:=some (.cJ k w)}) (live':=H.live) wi C r.l (by simp[Wd.put]) (λp i _=>.inl i) (λK y=>by
   unfold gI;rw[hph];simp only[jC]) h.lk (λJ x=>.inl x) (λs a i=>by cases i) ⟨b.ll,b.lo,b.hb,b.hl,by
    unfold ik;exact⟨D,F,A,E⟩⟩
  refine⟨iw.mk' hg b.hl trivial e z r,.inl ?_⟩;rw[e,m];refine⟨_,_,rfl,rfl,zL u,⟨rfl,c,G,rfl⟩,?_⟩;have:=Ou H t (cL (H.eA t) H.sp (k:Int)).1 (h.jW t) (cL (H.eA t) H.sp (k:Int)).2 (H.bQ.set t {g with ph:=some (.cJ k w)});simp only[G6];rw[this,zB d];omega
 ·have m:Wt H t (.grow k w)=({{H.cC (H.own t) (cL (H.eA t) H.sp (k:Int)).1 with sp:=(cL (H.eA t) H.sp (k:Int)).2}with bQ:=H.bQ.set t g},none,0,KA (H.eA t) H.sp (k:Int)):=by
   have:H.bQ.set t g=H.bQ:=Z7 hg;rw[this];simp only[Wt,h0,zz,Hw.cC]
  have e:=ZT (H1:={H.cC (H.own t) (cL (H.eA t) H.sp (k:Int)).1 with sp:=(cL (H.eA t) H.sp (k:Int)).2}) u m;rw[show(Wd.mk H.tb s0 H.bY held).sp=s0 from rfl,←e1]at wi;have z:=h.fB hg (g':={g with ph:=none}) (live':=H.live) wi C r.l (by simp[Wd.put]) (λp i _=>.inl i) (λK y=>by
   unfold gI;rw[hph];simp only[jC]) h.lk (λJ x=>.inl x) (λs a i=>by cases i) ⟨b.ll,b.lo,b.hb,b.hl,by
    unfold ik;exact D⟩
  refine⟨iw.mk' hg b.hl trivial e z r,.inr (.inl ?_)⟩;rw[e,m];exact⟨rfl,h0,rfl,rfl⟩
theorem Nc (h:HI H held s0)(hg:H.bQ[t]?=some g)(hph:g.ph=some .fill){cl sz:Int}(hr:Rq H.tb g .fill cl sz):iw H t .fill/\tx H t .fill cl sz:=by
 have N:=(cW.1 hg).1;have j:=h.th g (h.mem hg);obtain⟨k,x,xs,w,K,i,L⟩:∃k x xs,g.bP=[(k,x::xs)]/\k<H.tb.length/\(g.li k).os=[]/\xs.length<=128:=by have:=j.ph;unfold ik at this;rw[hph]at this;exact this
 obtain⟨k',X,r,c,z,rfl,G,rfl⟩:=hr;rw[w]at z;obtain⟨d, -⟩:=List.cons.inj z;obtain rfl:k=k':=congrArg Prod.fst d;obtain⟨l,hl,p,C,Q⟩:=j.li K;have u:=HV hg;rw[p]at i;have m:(eB xs.reverse l).os=xs.reverse:=by unfold eB;rw[i,zB aE];simp
 have J:Wt H t .fill=({{H with live:=dB H.live x (x,(c.size:Int),(k:Int),XO H.bY x)}with bQ:=H.bQ.set t {ls:=g.ls.set k (eB xs.reverse l),bP:=[],ph:=g.ph}},none,x,0):=by
  simp only[Wt,u,w,VV G,Vm,Zr hg,p]
 have e:=ZT N J;have A:1<=gI g (k:Int) x:=by
  unfold gI;rw[w,Kr,zC rfl];have:1<=(x::xs).count x:=Aq.2 aA;simp only;omega
 have F:=h.pN (h.mem hg) A;have E:=h.lO (h.mem hg) A;obtain⟨P,R⟩:=j.gM (k:=k) (xL (xs:=xs.reverse) C) (by rw[m];simp;omega);have S:=h.kf hg (g':={ls:=g.ls.set k (eB xs.reverse l),bP:=[],ph:=none}) (live':=dB H.live x (x,(c.size:Int),(k:Int),XO H.bY x)) (λk' y=>by
  rw[yJ _ E];have B:=Gr hl (eB xs.reverse l) k' y;rw[i,m,List.count_reverse,List.count_nil]at B;have V:(x::xs).count y=[x].count y+xs.count y:=vL (l₁:=[x]) (l₂:=xs);unfold gI;rw[hph,w];simp only[jC,Kr,Vo];by_cases d:(k:Int)=k'
  ·simp only[d,zR]at B ⊢;omega
  ·simp only[d,zz]at B ⊢;omega)
  (Go.Vc.gJ h.lk) (λW D=>by
   rcases(H8 E).1 D with D|rfl
   ·exact .inl D
   ·exact .inr (h.wV F G))
  (λs a M=>by cases M) ⟨P,R,λb U=>by simp at U,by simp,by unfold ik;rfl⟩
 refine⟨iw.mk' hg j.hl ⟨k,x,xs,[],by rw[u];exact w,K,(h.i63 F).1,by rw[u,p,i];simp;omega⟩ e S (KS.refl _),.inr (.inr ?_)⟩;rw[e,J];exact⟨rfl,rfl,E,rfl⟩
theorem JZ (h:HI H held s0)(hg:H.bQ[t]?=some g){m:Nat}(hph:g.ph=some (.eD m)){cl sz:Int}(hr:Rq H.tb g (.eD m) cl sz):iw H t (.eD m)/\tx H t (.eD m) cl sz:=by
 have K:=(cW.1 hg).1;have b:=h.th g (h.mem hg);obtain⟨L,W,S⟩:g.bP=[]/\1<=m/\m<=64:=by have:=b.ph;unfold ik at this;rw[hph]at this;exact this
 obtain⟨rfl,rfl⟩:=hr;have M:=h.eA t;have ga:=h.wi.ga _ _ M;obtain⟨e1,e2,R,P,B⟩:=h.mI.cA (H.eA t) (m:Int) 1;have wi:=h.wi.wP M (m:Int) 1;rw[show(Wd.mk H.tb s0 H.bY held).sp=s0 from rfl,←e1,←e2,←R]at wi;by_cases h0:Qi (H.eA t) H.sp (m:Int) 1=0
 ·rw[zC h0]at wi;have j:=BE wi;have A:=EZ (held:=held) (new:=[(⟨H.own t, -1,ZU (H.eA t) H.sp (m:Int) 1*256,(m:Int).toNat*256,false⟩:Pc)]) (cl:=-1) (l:=[((ZU (H.eA t) H.sp (m:Int) 1*256:Nat):Int)]) (λp d=>by
   simp only[zN]at d;subst d;exact⟨rfl,rfl,by simp⟩) λx C=>by
   simp only[zN]at C;subst C;exact⟨_,zN.2 rfl,rfl⟩
  have i:(⟨H.own t, -1,ZU (H.eA t) H.sp (m:Int) 1*256,(m:Int).toNat*256,false⟩:Pc)∈held++[(⟨H.own t, -1,ZU (H.eA t) H.sp (m:Int) 1*256,(m:Int).toNat*256,false⟩:Pc)]:=by simp
  have J:=wi.size_pos i;have u:=wi.jE i;have G:=wi.owner i (x:=ZU (H.eA t) H.sp (m:Int) 1*256) (zD _) (by simp only at J ⊢;omega);generalize D:ZU (H.eA t) H.sp (m:Int) 1=V at *;have r:bW H.live ((V*256:Nat):Int)=none:=h.tu λF Q=>j _ (zN.2 rfl) F Q;have w:Wt H t (.eD m)=({{H.cC (H.own t) (cA (H.eA t) H.sp (m:Int) 1).1 with sp:=(cA (H.eA t) H.sp (m:Int) 1).2,live:=dB H.live ((V*256:Nat):Int) (((V*256:Nat):Int),((m*256:Nat):Int), -1,XO (H.bY.set (H.own t) (cA (H.eA t) H.sp (m:Int) 1).1) ((V*256:Nat):Int))}with bQ:=H.bQ.set t g},none,((V*256:Nat):Int),0):=by
   have:H.bQ.set t g=H.bQ:=Z7 hg;rw[this];simp only[Wt,h0,zR,Hw.cC,Vm,D]
  have e:=ZT (H1:={H.cC (H.own t) (cA (H.eA t) H.sp (m:Int) 1).1 with sp:=(cA (H.eA t) H.sp (m:Int) 1).2,live:=dB H.live ((V*256:Nat):Int) (((V*256:Nat):Int),((m*256:Nat):Int), -1,XO (H.bY.set (H.own t) (cA (H.eA t) H.sp (m:Int) 1).1) ((V*256:Nat):Int))}) K w;have E:=h.fB hg (g':={g with ph:=none}) (live':=dB H.live ((V*256:Nat):Int) (((V*256:Nat):Int),((m*256:Nat):Int), -1,XO (H.bY.set (H.own t) (cA (H.eA t) H.sp (m:Int) 1).1) ((V*256:Nat):Int))) wi P B.l (by simp[Wd.put]) (FA wi) (λF y=>by
   rw[yJ _ r,A4 (l:=[((V*256:Nat):Int)]) (cl:=-1) aA (λy N=>by
    simp only[zN]at N;subst N;exact j _ (zN.2 rfl) _) A]
   unfold gI;rw[hph];simp only[jC];omega) (Go.Vc.gJ h.lk) (λU z=>by
    rcases(H8 r).1 z with z|rfl
    ·exact .inl z
    ·refine .inr ⟨rfl,_,i,rfl,rfl,rfl,?_,?_⟩
     ·simp
     ·exact G) (λs a d=>by cases d) ⟨b.ll,b.lo,b.hb,b.hl,by
    unfold ik;exact L⟩
  refine⟨iw.mk' hg b.hl ?_ e E B,.inr (.inr ?_)⟩
  ·show ZU (H.eA t) H.sp (m:Int) 1<=1000000;rw[D];simp only at u;omega
  ·rw[e,w];exact⟨rfl,rfl,r,rfl⟩
 ·rw[zB h0]at wi;have D:ZU (H.eA t) H.sp (m:Int) 1=0:=by
   unfold Qi at h0;unfold ZU;split
   ·rename_i d;rw[d,zC rfl]at h0;split at h0
    ·exact(h0 rfl).elim
    ·rename_i hn;cases C:(cZ (H.eA t) H.sp (m:Int).toNat (1:Int).toNat 41).1 with
     | none=>rfl
     | some y=>rw[C]at hn;simp at hn
   ·rfl
  have w:Wt H t (.eD m)=({{H.cC (H.own t) (cA (H.eA t) H.sp (m:Int) 1).1 with sp:=(cA (H.eA t) H.sp (m:Int) 1).2}with bQ:=H.bQ.set t g},none,0,Qi (H.eA t) H.sp (m:Int) 1):=by
   have:H.bQ.set t g=H.bQ:=Z7 hg;rw[this];simp only[Wt,h0,zz,Hw.cC]
  have e:=ZT (H1:={H.cC (H.own t) (cA (H.eA t) H.sp (m:Int) 1).1 with sp:=(cA (H.eA t) H.sp (m:Int) 1).2}) K w;have E:=h.fB hg (g':={g with ph:=none}) (live':=H.live) wi P B.l (by simp[Wd.put]) (λp d _=>.inl d) (λF y=>by
   unfold gI;rw[hph];simp only[jC]) h.lk (λU z=>.inl z) (λs a d=>by cases d) ⟨b.ll,b.lo,b.hb,b.hl,by
    unfold ik;exact L⟩
  refine⟨iw.mk' hg b.hl ?_ e E B,.inr (.inl ?_)⟩
  ·show ZU (H.eA t) H.sp (m:Int) 1<=1000000;rw[D];omega
  ·rw[e,w];exact⟨rfl,h0,rfl,rfl⟩
theorem Nm {W:Wd}(h:WI W)(hk:W.bY[k]?=some A){j:Nat}{l:List Int}(hl:∀x∈l,∃p∈W.held,lS k (j:Int) x p=true)(hn:l.Nodup)(hj:j<W.tb.length):QJ A (j:Int) l=0/\WI (W.put k (Zt A (j:Int) l) W.sp (W.held.filter λp=>!dW k (j:Int) l p)):=by
 have ga:=h.ga k A hk;have e:je W.held k (j:Int) l=true:=Kx.2 ⟨hl,hn⟩;obtain⟨c,w,_,g,_⟩:=ga.cl (k:=j) (by rw[h.tb k A hk];exact hj);have d:QJ A (j:Int) l=0:=by
  rw[Hv ga g];refine DA ⟨λx s=>?_,hn⟩;obtain⟨p,r,b⟩:=hl x s;obtain⟨i,u,m,y⟩:=Kt.1 b;obtain⟨_,_,_,a,_⟩:=h.cls r u (by rw[i];exact hk);rw[m]at a;exact(KO g).1 a
 refine⟨d,?_⟩;have:=h.Lz hk e;rw[zC d,h.xw e]at this;exact this
theorem De {xs:List Int}{tb:List bZ}{ars0:List AR}(hH:H.tb=tb)(h:WI ⟨tb,s0,H.bY,held⟩)(hk:k<tb.length)(hxs:∀x∈xs,Um held (k:Int) x)(hn:xs.Nodup)(ha:∀p∈held,XO ars0 (p.addr:Int)=(p.k:Int)):∀j,j<=H.bY.length →
 ∃ars',KM H k (ZD ars0 xs) (List.range j) = {H with bY:=ars'}/\ars'.length=H.bY.length/\WI ⟨tb,s0,ars',held.filter λp=>!(decide (p.k<j)&&(p.cls==(k:Int)&&xs.contains (p.addr:Int)))⟩
 | 0,_=>by
  refine⟨H.bY,rfl,rfl,?_⟩;have:(held.filter λp=>!(decide (p.k<0)&&(p.cls==(k:Int)&&xs.contains (p.addr:Int))))=held:=po.2 λp _=>by simp
  rw[this];exact h
 | j+1,hj=>by
  obtain⟨ars',e,u,s⟩:=De hH h hk hxs hn ha j O;rw[KW,e];have y:ars'[j]?=some (ars'[j]' O):=cV _;simp only[y];have b:∀{p:Pc},p∈held->p.k=j->((p.addr:Int)∈ZD ars0 xs j↔(p.addr:Int)∈xs):=λ{p} d a=>by
   unfold ZD;rw[zI,ha p d,a];simp
  have g:((held.filter λp=>!(decide (p.k<j)&&(p.cls==(k:Int)&&xs.contains (p.addr:Int)))).filter λp=>!dW j (k:Int) (ZD ars0 xs j) p)=held.filter λp=>!(decide (p.k<j+1)&&(p.cls==(k:Int)&&xs.contains (p.addr:Int))):=by
   rw[B4];apply vW;intro p d;have e1:dW j (k:Int) (ZD ars0 xs j) p=(p.k==j&&(p.cls==(k:Int)&&xs.contains (p.addr:Int))):=by
    unfold dW;by_cases a:p.k=j
    ·have:=b d a;have e2:(ZD ars0 xs j).contains (p.addr:Int)=xs.contains (p.addr:Int):=by
      rw[l3,xo,xo];exact this
     rw[e2]
    ·have:(p.k==j)=false:=by simpa using a
     rw[this];rfl
   rw[e1];have B:decide (p.k<j+1)=(decide (p.k<j)||p.k==j):=by
    rw[l3];simp;omega
   rw[B];cases p.k==j<;>cases decide (p.k<j)<;>cases(p.cls==(k:Int)&&xs.contains (p.addr:Int))<;>rfl
  by_cases d:ZD ars0 xs j=[]
  ·rw[zC d];refine⟨ars',rfl,u,?_⟩;rw[←g,d];have:∀p:Pc,(!dW j (k:Int) [] p)=true:=λp=>by simp[dW]
   rw[po.2 λp _=>this p];exact s
  ·rw[zB d];refine⟨ars'.set j (Zt (ars'[j]' O) (k:Int) (ZD ars0 xs j)),by simp[Hw.cC],by simp[u],?_⟩;rw[←g];refine(Nm s y (j:=k) (l:=ZD ars0 xs j) (λx w=>?_) (hn.sublist sD) hk).2;unfold ZD at w;obtain⟨m,i⟩:=zI.1 w;obtain⟨p,d,A,z,r⟩:=hxs x m;have a:p.k=j:=by
    have:=ha p d;rw[r]at this;rw[this]at i;have:(p.k:Int)=(j:Int):=by simpa using i
    omega
   exact⟨p,zI.2 ⟨d,by simp[a]⟩,Kt.2 ⟨a,z,r,A⟩⟩
theorem Mj {tb:List bZ}(hH:H.tb=tb)(h:WI ⟨tb,s0,H.bY,held⟩){own:Nat}(hown:own<H.bY.length)(hk:k<tb.length){xs:List Int}(hxs:∀x∈xs,Um held (k:Int) x)(hn:xs.Nodup) :
 ∃ars' held',Hb H own k xs = {H with bY:=ars'}/\ars'.length=H.bY.length/\WI ⟨tb,s0,ars',held'⟩/\(∀c x,Um held' c x↔Um held c x/\¬(c=(k:Int)/\x∈xs))/\∀p∈held',p.eM=false->p∈held:=by
 have u:H.bY[own]?=some H.bY[own]:=cV hown;have w:∀p∈held,XO H.bY (p.addr:Int)=(p.k:Int):=λp a=>h.owner a (zD _) (by have:=(h.size_pos a).1;omega);have all:∃ars' held',KM H k (ZD H.bY xs) (List.range H.bY.length) = {H with bY:=ars'}/\ars'.length=H.bY.length/\WI ⟨tb,s0,ars',held'⟩/\(∀c x,Um held' c x↔Um held c x/\¬(c=(k:Int)/\x∈xs))/\∀p∈held',p.eM=false->p∈held:=by
  obtain⟨ars',e,s,j⟩:=De hH h hk hxs hn w H.bY.length (zD _);refine⟨ars',_,e,s,j,λc x=>?_,λp a _=>(zI.1 a).1⟩;constructor
  ·rintro⟨p,a,i,g,d⟩;obtain⟨a,hf⟩:=zI.1 a;refine⟨⟨p,a,i,g,d⟩,?_⟩;rintro⟨rfl,b⟩;obtain⟨B,C,_⟩:=h.hf p a;have m:p.k<H.bY.length:=(cW.1 C).1;rw[g,d]at hf;simp[m,b]at hf
  ·rintro⟨⟨p,a,i,g,d⟩,hno⟩;refine⟨p,zI.2 ⟨a,?_⟩,i,g,d⟩;rw[g,d];by_cases hc:c=(k:Int)
   ·have:x∉xs:=λb=>hno ⟨hc,b⟩;simp[this]
   ·simp[hc]
 unfold Hb;rw[u];simp only;by_cases hcond:(ZD H.bY xs own).length=xs.length/\KY H.bY[own] (k:Int) xs=true
 ·rw[zC hcond];have r:∀x∈xs,XO H.bY x=(own:Int):=by
   have i:ZD H.bY xs own=xs:=by
    unfold ZD at hcond ⊢;exact List.filter_sublist.eq_of_length hcond.1
   intro x b;rw[←i]at b;unfold ZD at b;simpa using(zI.1 b).2
  have y:je held own (k:Int) xs=true:=Kx.2 ⟨λx b=>by
   obtain⟨p,a,i,g,d⟩:=hxs x b;have A:=w p a;rw[d,r x b]at A;exact⟨p,a,Kt.2 ⟨O,g,d,i⟩⟩,hn⟩
  have j:=h.Mm u y;rw[zC hcond.2]at j;exact⟨_,_,rfl,by simp[Hw.cC],j,OM h y,OY⟩
 ·rw[zB hcond];have e:(if(ZD H.bY xs own).length=xs.length then H.cC own (QR H.bY[own] (k:Int) xs)else H)=H:=by
   split
   ·rename_i s;have z:KY H.bY[own] (k:Int) xs=false:=by
     apply ng.2;intro b;exact hcond ⟨s,b⟩
    have:QR H.bY[own] (k:Int) xs=H.bY[own]:=by unfold QR;rw[z];rfl
    rw[this];exact CD u
   ·rfl
  rw[e];exact all
def k7:Ph->Prop
 | .find _=>True
 | .put _ _=>True
 | .back=>True
 | .dC _ _=>True
 | .drain=>True
 | _=>False
def pv (g:Th):Ph->Nat
 | .find _=>101
 | .put _ _=>100
 | .drain=>100
 | .back=>g.bP.length
 | _=>0
def m5 (H:Hw)(t:Nat)(g:Th)(p:Ph):Prop:=(Wt H t p).2.2.1=0 ∧
 ((∃p' g',(Wt H t p).2.1=some p'/\k7 p'/\(∀x,p'≠.find x)/\(Qr H t p).bQ[t]?=some g'/\pv g' p'<pv g p)\/(Wt H t p).2.1=none) ∧
 ((∀x,p≠.find x)->(Wt H t p).2.2.2=0/\(Qr H t p).live=H.live) ∧
 (∀x,p=.find x->(bW H.live x=none->(Wt H t p).2.1=none/\(Wt H t p).2.2.2≠0/\(Qr H t p).live=H.live)/\(∀b,bW H.live x=some b->(Wt H t p).2.2.2=0/\(Qr H t p).live=cS H.live x))
theorem yN (hg:H.bQ[t]?=some g):jV H t=if g.bP=[]then none else some .back:=by unfold jV;rw[hg]
theorem LZ (h:HI H held s0)(hg:H.bQ[t]?=some g){x:Int}(hph:g.ph=some (.find x)):iw H t (.find x)/\m5 H t g (.find x):=by
 have E:=(cW.1 hg).1;have d:=h.th g (h.mem hg);obtain⟨P,C⟩:g.bP=[]/\iE x:=by have:=d.ph;unfold ik at this;rw[hph]at this;exact this
 have V:∀A∈H.bY,iI A:=λA Q=>by
  obtain⟨j,hj⟩:=zQ Q;exact(h.wi.ga j A hj).nX
 cases hm:bW H.live x with
 | none=>
  have w:Wt H t (.find x)=({H with bQ:=H.bQ.set t g},none,0,lj H x):=by
   have:H.bQ.set t g=H.bQ:=Z7 hg;rw[this];simp only[Wt,UI,hm]
  have e:=ZT E w;have F:=h.kf hg (g':={g with ph:=none}) (live':=H.live) (λK x=>by
   unfold gI;rw[hph];simp only[jC]) h.lk (λX L=>.inl L) (λs a N=>by cases N) ⟨d.ll,d.lo,d.hb,d.hl,by
    unfold ik;exact P⟩
  refine⟨iw.mk' hg d.hl ⟨C,λ_=>V,λb hb=>by rw[hm]at hb;cases hb⟩ e F (KS.refl _),?_⟩;unfold m5;rw[e,w];refine⟨rfl,.inr rfl,λi=>(i x rfl).elim,λy m=>?_⟩;cases m;refine⟨λ_=>⟨rfl,?_,rfl⟩,(λb hb=>by rw[hm]at hb;cases hb)⟩;show lj H x≠0;unfold lj
  repeat' split
  all_goals simp
 | some b=>
  have S:=Vj hm;obtain⟨_,p,N,h1,R,W,h4,Z⟩:=h.lv _ S;simp only at R W h4 Z;have U:0<=x:=by omega
  obtain⟨A,Q,hd⟩:=h.wi.hf p N;have Y:tO H t (.find x):=⟨C,(λi=>by rw[hm]at i;cases i),λ_ _=>U⟩;rcases hd with⟨c1,_,r,hr,c2,c3⟩|⟨j,c,c1,c2,c3,_⟩
  ·have M:b.2.2.1 = -1:=by rw[←R,c1]
   have w:Wt H t (.find x)=({{H with live:=cS H.live x}with bQ:=H.bQ.set t g},some (.dC (x/256) b.2.2.2),0,0):=by
    have:H.bQ.set t g=H.bQ:=Z7 hg;rw[this];simp only[Wt,UI,hm];rw[zC O]
   have e:=ZT (H1:={H with live:=cS H.live x}) E w;have u:x/256*256=x:=by omega
   have F:=h.kf hg (g':={g with ph:=some (.dC (x/256) b.2.2.2)}) (live':=cS H.live x) (λK y=>by
    have z:=Cb h.lk hm K y;rw[M]at z;unfold gI;rw[hph];simp only[jC,u];by_cases m:x=y
    ·subst m;rw[Bg]at z;by_cases hk : -1=K
     ·rw[zC hk]at z;rw[zC ⟨hk.symm,rfl⟩];omega
     ·rw[zB hk]at z;rw[zB (λC=>hk C.1.symm)];omega
    ·have:[x].count y=0:=xz.2 aE;rw[this]at z;rw[zB (λC=>m C.2.symm)];split at z<;>omega)
    (Go.Vc.jd h.lk) (λX L=>.inl (Gf.1 L).1) (λs a B=>by
     cases B;exact⟨p,N,h1,c1,by rw[u];exact W,Z⟩) ⟨d.ll,d.lo,d.hb,d.hl,by
      unfold ik;exact P⟩
   refine⟨iw.mk' hg d.hl Y e F (KS.refl _),?_⟩;unfold m5;rw[e,w];refine⟨rfl,.inl ⟨_,_,rfl,trivial,(λy m=>by cases m),zL E,by simp[pv]⟩,λi=>(i x rfl).elim,λy m=>?_⟩;cases m;exact⟨(λi=>by rw[hm]at i;cases i),λ_ _=>⟨rfl,rfl⟩⟩
  ·have G:b.2.2.1=(j:Int):=by rw[←R,c1]
   have D:j<H.tb.length:=by
    rw[h.wi.tb _ _ Q]at c2;exact(cW.1 c2).1
   have w:Wt H t (.find x)=({{H with live:=cS H.live x}with bQ:=H.bQ.set t {g with bP:=[(j,[x])]}},some (.put j x),0,0):=by
    simp only[Wt,UI,hm];rw[zB O,G,dE];unfold QF;rw[Zr (g:=g) (by exact hg),P];rfl
   have e:=ZT (H1:={H with live:=cS H.live x}) E w;have F:=h.kf hg (g':={g with bP:=[(j,[x])],ph:=some (.put j x)}) (live':=cS H.live x) (λK y=>by
    have z:=Cb h.lk hm K y;rw[G]at z;unfold gI;rw[hph,P];simp only[jC,Kr,Vo];omega)
    (Go.Vc.jd h.lk) (λX L=>.inl (Gf.1 L).1) (λs a B=>by cases B) ⟨d.ll,d.lo,λb' J=>by
     simp only[zN]at J;subst J;exact⟨D,by simp,by simp⟩,by simp,by
     unfold ik;exact⟨rfl,D⟩⟩
   refine⟨iw.mk' hg d.hl Y e F (KS.refl _),?_⟩;unfold m5;rw[e,w];refine⟨rfl,.inl ⟨_,_,rfl,trivial,(λy m=>by cases m),zL E,by simp[pv]⟩,λi=>(i x rfl).elim,λy m=>?_⟩;cases m;exact⟨(λi=>by rw[hm]at i;cases i),λ_ _=>⟨rfl,rfl⟩⟩
theorem D5 {f:bZ->Li->List Int×Li}{tb:List bZ}{ls:List Li}{b:Bt}(h:b∈QX f tb ls):b.1<tb.length/\b.2≠[]/\∃c∈tb,∃l∈ls,b.2=(f c l).1:=by
 unfold QX at h;obtain⟨k,d,a⟩:=vO.1 h;split at a
 ·rename_i c l hc hl;split at a
  ·cases a
  ·cases a;exact⟨zg.1 d,by assumption,c,zG hc,l,zG hl,rfl⟩
 ·cases a
theorem Ic {f:bZ->Li->List Int×Li}{tb:List bZ}{ls:List Li}{l':Li}(h:l'∈QS f tb ls):∃c∈tb,∃l∈ls,l'=(f c l).2:=by
 unfold QS at h;obtain⟨i,a⟩:=zQ h;rw[AQ]at a;split at a
 ·rename_i c l hc hl;cases a;exact⟨c,zG hc,l,zG hl,rfl⟩
 ·cases a
theorem Ci {f:bZ->Li->List Int×Li}{tb:List bZ}{ls:List Li}(h:ls.length=tb.length):(QS f tb ls).length=tb.length:=by
 unfold QS;rw[List.length_zipWith];omega
theorem Co (c:bZ)(l:Li):(KE c l).2.os.length<=l.os.length/\(KE c l).1.length<=l.os.length:=by
 simp only[KE,gg,j3,zZ];omega
theorem Fz (c:bZ)(l:Li):(ZF c l).2.os.length<=l.os.length/\(ZF c l).1.length<=l.os.length:=by
 simp only[ZF,gg,j3,zZ];omega
theorem Ln (h:HI H held s0)(hg:H.bQ[t]?=some g)(hph:g.ph=some .drain):iw H t .drain/\m5 H t g .drain:=by
 have p:=(cW.1 hg).1;have d:=h.th g (h.mem hg);have z:g.bP=[]:=by have:=d.ph;unfold ik at this;rw[hph]at this;exact this
 have K:=h.qy;have J:=GL ZF H.tb g.ls;have u:Wt H t .drain=({H with bQ:=H.bQ.set t {g with ls:=QS ZF H.tb g.ls,bP:=QX ZF H.tb g.ls}},(if QX ZF H.tb g.ls=[]then none else some .back),0,0):=by
  simp only[Wt,Zr hg];rw[yN (g:={g with ls:=QS ZF H.tb g.ls,bP:=QX ZF H.tb g.ls}) (by simp[p])]
 have e:=ZT p u;have A:=h.kf hg (g':={ls:=QS ZF H.tb g.ls,bP:=QX ZF H.tb g.ls,ph:=if QX ZF H.tb g.ls=[]then none else some .back}) (live':=H.live) (λr x=>by
  have L:=EW (f:=ZF) ON d.ll r x;unfold gI;rw[hph,z];have:jC (if QX ZF H.tb g.ls=[]then none else some Ph.back) r x=0:=by split<;>rfl
  simp only[this,Vo];simp only[jC];omega) h.lk (λM E=>.inl E) (λs a m=>by
   simp only at m;split at m<;>cases m) ⟨Ci d.ll,λl hl=>by
   obtain⟨c,_,j,i,rfl⟩:=Ic hl;have:=d.lo j i;have:=Fz c j;exact⟨R6 (d.lo j i).1,O⟩,λb B=>by
   obtain⟨G,C,c,_,j,i,w⟩:=D5 B;have:=d.lo j i;have:=Fz c j;exact⟨G,C,by rw[w];omega⟩,by simp only;omega,by
   unfold ik;by_cases ho:QX ZF H.tb g.ls=[]
   ·rw[zC ho];exact ho
   ·rw[zB ho];exact ho⟩
 refine⟨iw.mk' hg d.hl trivial e A (KS.refl _),?_⟩;unfold m5;rw[e,u];refine⟨rfl,?_,λ_=>⟨rfl,rfl⟩,λx D=>by cases D⟩;by_cases ho:QX ZF H.tb g.ls=[]
 ·exact .inr (by simp only;rw[zC ho])
 ·exact .inl ⟨.back,_,by simp only;rw[zB ho],trivial,(λy F=>by cases F),zL p,by simp only[pv];omega⟩
theorem Sf (h:HI H held s0)(hg:H.bQ[t]?=some g){s a:Int}(hph:g.ph=some (.dC s a)):iw H t (.dC s a)/\m5 H t g (.dC s a):=by
 have L:=(cW.1 hg).1;have b:=h.th g (h.mem hg);have P:g.bP=[]:=by have:=b.ph;unfold ik at this;rw[hph]at this;exact this
 obtain⟨p,C,X,S,W,Y⟩:=h.gv g (h.mem hg) s a hph;obtain⟨A,w,_⟩:=h.wi.hf p C;have z:H.bY[p.k]?=some A:=w;have M:=(cW.1 z).1;obtain⟨_,r,G,c2,Z⟩:=h.wi.run C S w;have ga:=h.wi.ga _ _ w;have d:s=(r.1:Int):=by omega
 have U:KG A s=0:=by
  unfold KG;rw[zC];unfold pE;rw[yL];exact⟨r,G,by simp[d]⟩
 have D:je held p.k (-1) [s*256]=true:=by rw[d];exact h.wi.mY w G
 have wi:=h.wi.we w s;rw[zC U,h.wi.xw D]at wi;have m:a.toNat=p.k:=by omega
 have K:Wt H t (.dC s a)=({H.cC p.k (Qq A s)with bQ:=H.bQ.set t g},none,0,0):=by
  have:H.bQ.set t g=H.bQ:=Z7 hg;rw[this];simp only[Wt,m,z,Hw.cC]
 have e:=ZT (H1:=H.cC p.k (Qq A s)) L K;have Q:=h.fB hg (g':={g with ph:=none}) (live':=H.live) wi h.mI rfl (by simp[Wd.put]) (λq E _=>.inl (zI.1 E).1) (λy x=>by
  have i:=Dg (held':=held.filter λF=>!dW p.k (-1) [s*256] F) (l:=[s*256]) (cl:=-1) aA (LI D) (R3 h.wi D) y x;have i:kM held y x=kM (held.filter λF=>!dW p.k (-1) [s*256] F) y x+(if -1=y then[s*256].count x else 0):=i
  unfold gI;rw[hph];simp only[jC];by_cases hy:s*256=x
  ·subst hy;rw[Bg]at i;by_cases hk : -1=y
   ·rw[zC hk]at i;rw[zC ⟨hk.symm,rfl⟩];omega
   ·rw[zB hk]at i;rw[zB (λu=>hk u.1.symm)];omega
  ·have:[s*256].count x=0:=xz.2 aE;rw[this]at i;rw[zB (λu=>hy u.2.symm)];split at i<;>omega) h.lk (λe' V=>.inl V) (λs a C=>by cases C) ⟨b.ll,b.lo,b.hb,b.hl,by
   unfold ik;exact P⟩
 refine⟨iw.mk' hg b.hl ⟨O,O,λB R q E=>?_⟩ e Q (KS.refl _),?_⟩
 ·obtain⟨j,N⟩:=zQ R;have J:=h.wi.ga j B N;have:=J.fit E;have:=J.pg.n2;omega
 ·unfold m5;rw[e,K];exact⟨rfl,.inr rfl,λ_=>⟨rfl,rfl⟩,λx u=>by cases u⟩
theorem No (h:HI H held s0)(hg:H.bQ[t]?=some g)(hph:g.ph=some .back):iw H t .back/\m5 H t g .back:=by
 have E:=(cW.1 hg).1;have d:=h.th g (h.mem hg);have P:g.bP≠[]:=by have:=d.ph;unfold ik at this;rw[hph]at this;exact this
 have C:=HV hg;cases hhd:g.bP with
 | nil=>exact(P hhd).elim
 | cons b r=>
  obtain⟨k,B⟩:=b;obtain⟨L,z,D⟩:=d.hb (k,B) (by rw[hhd];simp);simp only at L z D;have m:∀x,B.count x<=gI g (k:Int) x:=λx=>by
   unfold gI;rw[hhd,Kr,zC rfl];simp only;omega
  have i:∀x∈B,Um held (k:Int) x:=λx u=>h.pN (h.mem hg) (zh (Aq.2 u) (m x));have A:B.Nodup:=A3.2 λx=>by
   have N:=m x;have W:=h.oL (h.mem hg) (k:Int) x;have V:=FX held (k:Int) x;omega
  obtain⟨j,G,M,F,wi,um,sub⟩:=Mj (H:={H with bQ:=H.bQ.set t {g with bP:=r}}) (tb:=H.tb) rfl h.wi (h.jW t) L i A;have K:Wt H t .back=({{H with bY:=j}with bQ:=H.bQ.set t {g with bP:=r}},(if r=[]then none else some .back),0,0):=by
   simp only[Wt,C,hhd,Zr hg,M];rw[yN (g:={g with bP:=r}) (by simp[E])]
  have e:=ZT (H1:={H with bY:=j}) E K;have Q:=h.fB hg (g':={g with bP:=r,ph:=if r=[]then none else some .back}) (live':=H.live) wi h.mI rfl F (λp w U=>.inl (sub p w U)) (λJ x=>by
   have N:=Dg A i um J x;unfold gI;rw[hph,hhd,Kr];have:jC (if r=[]then none else some Ph.back) J x=0:=by split<;>rfl
   simp only[this];simp only[jC];omega) h.lk (λX R=>.inl R) (λs a w=>by
    simp only at w;split at w<;>cases w) ⟨d.ll,d.lo,λb hb=>d.hb b (by rw[hhd];exact nF _ hb),by have:=d.hl;rw[hhd]at this;simp at this ⊢;omega,by
    unfold ik;by_cases ho:r=[]
    ·rw[zC ho];exact ho
    ·rw[zB ho];exact ho⟩
  refine⟨iw.mk' hg d.hl ⟨k,B,r,by rw[C];exact hhd,λx u=>⟨(h.i63 (i x u)).1,(h.i63 (i x u)).2.2⟩,O⟩ e Q (KS.refl _),?_⟩;unfold m5;rw[e,K];refine⟨rfl,?_,λ_=>⟨rfl,rfl⟩,λx u=>by cases u⟩;by_cases ho:r=[]
  ·exact .inr (by simp only;rw[zC ho])
  ·exact .inl ⟨.back,_,by simp only;rw[zB ho],trivial,(λy S=>by cases S),zL E,by simp only[pv];rw[hhd];simp⟩
theorem RQ (h:HI H held s0)(hg:H.bQ[t]?=some g){x:Int}(hph:g.ph=some (.put k x)):iw H t (.put k x)/\m5 H t g (.put k x):=by
 have B:=(cW.1 hg).1;have r:=h.th g (h.mem hg);obtain⟨J,L⟩:g.bP=[(k,[x])]/\k<H.tb.length:=by have:=r.ph;unfold ik at this;rw[hph]at this;exact this
 obtain⟨c,hc,E⟩:=h.cls L;obtain⟨l,hl,X,F,hlm⟩:=r.li L;have G:=HV hg;have h40:=h.qy;have U:=RG (x:=x) E F;have V:=N3 c x l O;have Z:(dJ c x l).1.length<=129/\(dJ c x l).2.os.length<=128:=by
  have ab:=F.lim;have z:(eB [x] l).os=l.os++[x]:=by unfold eB;rw[zB aE]
  have M:(mn c (eB [x] l)).os=l.os++[x]:=by rw[←z];unfold mn;split<;>rfl
  unfold bZ.ok at E;unfold dJ;rw[zB O];split
  ·rw[z];simp;omega
  ·simp only[gg,M,zZ,j3,zO,AG];omega
 obtain⟨Q,S⟩:=r.gM (k:=k) U Z.2;have aa:∃hs:List Bt,(if(dJ c x l).1=[]then[]else[(k,(dJ c x l).1)])=hs:=⟨_,rfl⟩
 obtain⟨i,j⟩:=aa;have ac:i.length<=1:=by rw[←j];split<;>simp
 have u:∀b∈i,b.1<H.tb.length/\b.2≠[]/\b.2.length<=256:=λb p=>by
  rw[←j]at p;split at p
  ·simp at p
  ·simp only[zN]at p;subst p;exact⟨L,by assumption,by simp only;omega⟩
 have C:∀d y,lD i d y=if(k:Int)=d then(dJ c x l).1.count y else 0:=λd y=>by
  rw[←j];split
  ·rename_i hn;rw[hn,Vo];simp
  ·simp only[Kr,Vo,j8]
 let g3:Th:={g with ls:=g.ls.set k (dJ c x l).2,bP:=i}
 let g4:Th:=if H.cf.dA<QO H.tb g3.ls then{g3 with ls:=QS KE H.tb g3.ls,bP:=g3.bP++QX KE H.tb g3.ls}else g3
 have Y:ir H t k x = {H with bQ:=H.bQ.set t g4}:=by
  have e2:(if(dJ c x l).1=[]then H.dV t λh=>h.gM k (dJ c x l).2 else QF (H.dV t λh=>h.gM k (dJ c x l).2) t k (dJ c x l).1) = {H with bQ:=H.bQ.set t {g with ls:=g.ls.set k (dJ c x l).2,bP:=(k,[x])::i}}:=by
   rw[←j];split
   ·rw[Zr hg,←J];rfl
   ·rw[Zr hg];unfold QF;rw[Zr (g:=g.gM k (dJ c x l).2) (by simp[B])];simp only[m9,Th.gM,J];rfl
  have e3:({H with bQ:=H.bQ.set t {g with ls:=g.ls.set k (dJ c x l).2,bP:=(k,[x])::i}}:Hw).dV t (λh=>{h with bP:=h.bP.drop 1}) = {H with bQ:=H.bQ.set t g3}:=by
   rw[Zr (g:={g with ls:=g.ls.set k (dJ c x l).2,bP:=(k,[x])::i}) (by simp[B])];simp only[m9,yF,List.drop_zero];rfl
  have w:({H with bQ:=H.bQ.set t g3}:Hw).bQ[t]?=some g3:=by simp[B]
  unfold ir;simp only[VV hc,G,X,e2,e3,HV w,Zr w,m9];show(if H.cf.dA<QO H.tb g3.ls then _ else _)=_
  simp only[g4];split<;>rfl
 have hg4:g4.ph=g.ph:=by simp only[g4];split<;>rfl
 have W:∀d y,lP g4.ls d y+lD g4.bP d y=lP g.ls d y+lD g.bP d y:=λd y=>by
  have R:=Gr hl (dJ c x l).2 d y;have h2:=V y;have h3:lP g3.ls d y+lD g3.bP d y=lP g.ls d y+lD g.bP d y:=by
   simp only[g3];rw[C,J,Kr,Vo];by_cases hkk:(k:Int)=d
   ·simp only[hkk,zR]at R ⊢;omega
   ·simp only[hkk,zz]at R ⊢;omega
  simp only[g4];split
  ·have h4:=EW (f:=KE) Mo (tb:=H.tb) (ls:=g3.ls) Q d y;simp only[CV];omega
  ·exact h3
 have m:g4.ls.length=H.tb.length/\(∀l∈g4.ls,fJ l/\l.os.length<=128)/\(∀b∈g4.bP,b.1<H.tb.length/\b.2≠[]/\b.2.length<=256)/\g4.bP.length<=41:=by
  have hsl:=GL KE H.tb g3.ls;simp only[g4];split
  ·refine⟨Ci Q,λl hl=>?_,λb p=>?_,by simp only[zO,g3]at *;omega⟩
   ·obtain⟨K,N,D,A,rfl⟩:=Ic hl;have h5:=S D A;have:=Co K D;exact⟨D9 (h.ok K N) h5.1,O⟩
   ·rcases zK.1 p with p|p
    ·exact u b p
    ·obtain⟨b1,b2,K,_,D,A,b3⟩:=D5 p;have h5:=S D A;have:=Co K D;exact⟨b1,b2,by rw[b3];omega⟩
  ·exact⟨Q,S,u,by simp only[g3];omega⟩
 have hs:Wt H t (.put k x)=({H with bQ:=H.bQ.set t g4},(if g4.bP=[]then none else some .back),0,0):=by
  show(ir H t k x,jV (ir H t k x) t,0,0)=_;rw[Y,yN (g:=g4) (by simp[B])]
 have e:=ZT B hs;have hi:=h.kf hg (g':={g4 with ph:=if g4.bP=[]then none else some .back}) (live':=H.live) (λd y=>by
  have R:=W d y;unfold gI;rw[hph];have:jC (if g4.bP=[]then none else some Ph.back) d y=0:=by split<;>rfl
  simp only[this];simp only[jC];omega) h.lk (λe' he=>.inl he) (λs a P=>by
   simp only at P;split at P<;>cases P) ⟨m.1,m.2.1,m.2.2.1,m.2.2.2,by
   unfold ik;by_cases ho:g4.bP=[]
   ·simp only[ho,zR]
   ·simp only[ho,zz];exact ho⟩
 refine⟨iw.mk' hg r.hl ⟨L,by rw[G,J];simp⟩ e hi (KS.refl _),?_⟩;unfold m5;rw[e,hs];refine⟨rfl,?_,λ_=>⟨rfl,rfl⟩,λx hx=>by cases hx⟩;by_cases ho:g4.bP=[]
 ·exact .inr (by simp only;rw[zC ho])
 ·exact .inl ⟨.back,_,by simp only;rw[zB ho],trivial,(λy hy=>by cases hy),zL B,by simp only[pv];have:=m.2.2.2;omega⟩
end Go.Ar
namespace Go.Ar
open Go Go.Vc Go.Proofs
open Go.Bu (eU KX UJ)
variable {U u w w':Hp}{F B P Q:Rg}{L:dK}{H H':Hw}{t n:Nat}{g:Th}
def yq (size:Int):Int:=(size+255)/256*256
def GN (tb:List bZ)(size align:Int):Int×Int:=
 if size<=16384/\Uw size align=true then(match gL tb size align with
  | some k=>((tb.getD k ⟨8,1,1⟩).size:Int)
  | none=>yq size,0)else(0,1)
theorem OD {a:Int}(h1:1<=a)(h2:a<=256):(bits .and .i64 a (a-1) != 0) = !eU a:=by
 obtain⟨a,rfl⟩:=za (show 0<=a by omega);rw[show(a:Int)-1=((a-1:Nat):Int) by omega,Go.Bu.iK O O,KX,←UJ O O];simp only[bne,Bool.not_inj_iff];rw[l3];simp only[zT];omega
def QW (sp:Sp)(x:Int):Int:=if eT sp x=0 then sp.wd (x.toNat/8)else 0
theorem CI (h:HH U F L H)(x:Int)(hx:x<=9223372036854775807){R:Int->Int->Hp->Prop}(hR:∀σ',bK U σ'->R (QW H.sp x) (eT H.sp x) σ'):YE.c (aW L.p) x U R:=JB h x hx hR
end Go.Ar
namespace Go.Ar
open Go Go.Vc Go.Proofs
variable {U u w w':Hp}{F B P Q:Rg}{L:dK}{H H':Hw}{t n:Nat}{g:Th}
def Kg (H:Hw)(x:Int):Option Int:=(bW H.live x).map λb=>b.2.1
theorem Fg {tb:List bZ}{size align:Int}{k:Nat}(h:gL tb size align=some k):k<tb.length:=(List.findIdx?_eq_some_iff_findIdx_eq.1 h).1
theorem Eo (h:HH U F L H)(x:Int){R:Int->Int->Hp->Prop}(hR:∀σ',bK U σ'->R ((Kg H x).getD 0) (if(Kg H x).isSome then 0 else 8) σ'):Xv.c (aW L.p) x U R:=by
 refine RE h x λσ' e=>?_;have:=hR σ' e;unfold Kg at this;cases hm:bW H.live x with
 | none=>rw[hm]at this;exact this
 | some b=>rw[hm]at this;exact this
end Go.Ar
namespace Go.Ar
open Go.Vc (bW dB cS)
variable {H H':Hw}{held:List Pc}{s0:Sp}{t k j:Nat}{g:Th}{A:AR}{c:bZ}
theorem Kv (f:Th->Th)(hj:j≠t):(H.dV t f).bQ[j]?=H.bQ[j]? := by
 simp[Hw.dV,sC,Ne.symm hj]
theorem LF (x:Int)(hj:j≠t):(ir H t k x).bQ[j]?=H.bQ[j]? := by
 unfold ir QF;simp only;split<;>split<;>simp only[Kv _ hj]
theorem Ji (p:Ph)(hj:j≠t):(Wt H t p).1.bQ[j]?=H.bQ[j]? := by
 cases p with
 | take k=>simp only[Wt];split<;>simp only[Vm,Kv _ hj]
 | cH k w=>
  simp only[Wt];split
  ·split
   ·unfold QF;rw[Kv _ hj];rfl
   ·rfl
  ·rfl
 | cJ k w=>
  simp only[Wt];split
  ·rfl
  ·unfold QF;rw[Kv _ hj];rfl
 | grow k w=>simp only[Wt];split<;>rfl
 | fill=>simp only[Wt];split<;>simp only[Vm,Kv _ hj]
 | eD m=>simp only[Wt];split<;>rfl
 | find x=>
  simp only[Wt,UI];split
  ·rfl
  ·split
   ·rfl
   ·unfold QF;rw[Kv _ hj]
 | put k x=>exact LF x hj
 | back=>
  simp only[Wt];split
  ·rw[G9,Kv _ hj]
  ·rfl
 | dC s a=>simp only[Wt];split<;>rfl
 | drain=>simp only[Wt,Kv _ hj]
theorem V0 (p:Ph)(hj:j≠t):(Qr H t p).bQ[j]?=H.bQ[j]? := by
 unfold Qr eN;rw[Kv _ hj,Ji p hj]
def fG (H:Hw)(j:Nat):Option Ph:=(H.bQ[j]?).bind (·.ph)
def wD (H H':Hw)(t:Nat):Prop:=fG H' t=none/\∀j,j≠t->fG H' j=fG H j
theorem AI (h:HI H held s0)(hg:H.bQ[t]?=some g){p:Ph}(hp:g.ph=some p)(hf:¬k7 p):∃cl sz,Rq H.tb g p cl sz:=by
 have b:=(h.th g (h.mem hg)).ph;unfold ik at b;rw[hp]at b;cases p with
 | take k=>obtain⟨c,d,_⟩:=h.cls b.2;exact⟨_,_,rfl,c,d,rfl⟩
 | cH k w=>obtain⟨c,d,_⟩:=h.cls b.2.1;exact⟨_,_,rfl,c,d,rfl⟩
 | cJ k w=>obtain⟨c,d,_⟩:=h.cls b.2.1;exact⟨_,_,rfl,c,d,rfl⟩
 | grow k w=>obtain⟨c,d,_⟩:=h.cls b.2.1;exact⟨_,_,rfl,c,d,rfl⟩
 | fill=>
  obtain⟨k,x,j,e,i,_⟩:=b;obtain⟨c,d,_⟩:=h.cls i;exact⟨_,_,k,_,[],c,e,rfl,d,rfl⟩
 | eD m=>exact⟨_,_,rfl,rfl⟩
 | find x=>exact(hf trivial).elim
 | put k x=>exact(hf trivial).elim
 | back=>exact(hf trivial).elim
 | dC s a=>exact(hf trivial).elim
 | drain=>exact(hf trivial).elim
theorem pW (h:HI H held s0)(hg:H.bQ[t]?=some g){p:Ph}(hp:g.ph=some p){cl sz:Int}(hr:Rq H.tb g p cl sz):iw H t p/\tx H t p cl sz:=by
 cases p with
 | take k=>exact Nv h hg hp hr
 | cH k w=>exact PU h hg hp hr
 | cJ k w=>exact OA h hg hp hr
 | grow k w=>exact Ng h hg hp hr
 | fill=>exact Nc h hg hp hr
 | eD m=>exact JZ h hg hp hr
 | find x=>exact hr.elim
 | put k x=>exact hr.elim
 | back=>exact hr.elim
 | dC s a=>exact hr.elim
 | drain=>exact hr.elim
theorem p8 (h:HI H held s0)(hg:H.bQ[t]?=some g){p:Ph}(hp:g.ph=some p)(hf:k7 p):iw H t p/\m5 H t g p:=by
 cases p with
 | take k=>exact hf.elim
 | cH k w=>exact hf.elim
 | cJ k w=>exact hf.elim
 | grow k w=>exact hf.elim
 | fill=>exact hf.elim
 | eD m=>exact hf.elim
 | find x=>exact LZ h hg hp
 | put k x=>exact RQ h hg hp
 | back=>exact No h hg hp
 | dC s a=>exact Sf h hg hp
 | drain=>exact Ln h hg hp
open Classical in
theorem HI.LO (h:HI H held s0)(hg:H.bQ[t]?=some g){p:Ph}(hp:g.ph=some p):iw H t p:=by
 by_cases hf:k7 p
 ·exact(p8 h hg hp hf).1
 ·obtain⟨cl,b,a⟩:=AI h hg hp hf;exact(pW h hg hp a).1
theorem UO {p:Ph}(ht:t<H.bQ.length):∃g',(Qr H t p).bQ[t]?=some g'/\g'.ph=(Wt H t p).2.1:=Cx ht
theorem EG {cl sz:Int}:∀(n:Nat) {H:Hw} {held:List Pc} {s0:Sp} {g:Th} {p:Ph},HI H held s0->H.bQ[t]?=some g->g.ph=some p->Rq H.tb g p cl sz->G6 H t p<=n →
 ∃m H' a e,iC m H t p H' a e/\(∃held s0,HI H' held s0)/\KS H.sp H'.sp/\wD H H' t/\((e≠0/\a=0/\H'.live=H.live)\/(e=0/\bW H.live a=none/\H'.live=dB H.live a (a,sz,cl,XO H'.bY a)))
 | n,H,held,s0,g,p,h,hg,hp,hr,hn=>by
  have ht:=(cW.1 hg).1;obtain⟨s,B⟩:=pW h hg hp hr;have i:(Wt H t p).2.1=none->wD H (Qr H t p) t:=λE=>by
   obtain⟨F,w,x⟩:=UO (p:=p) ht;exact⟨by unfold fG;rw[w];exact x.trans E,λj u=>by unfold fG;rw[V0 p u]⟩
  rcases B with⟨p',F,e1,e2,e3,e4,e5⟩|⟨e1,e2,e3,e4⟩|⟨e1,e2,e3,e4⟩
  ·obtain⟨z,G,D⟩:=s.hi;obtain⟨J,b,kG⟩:=UO (p:=p) ht;rw[e3]at b;cases b;have y:(Qr H t p).tb=H.tb:=(Ur H t p).1;have C:G6 (Qr H t p) t p'<n:=by omega
   obtain⟨m,H',a,e,r,hi,ks,A,d⟩:=EG (G6 (Qr H t p) t p') D e3 (kG.trans e1) (by rw[y];exact e4) (zD _);refine⟨m+1,H',a,e,.next s.ok e1 r,hi,s.ks.trans ks,⟨A.1,λj u=>(A.2 j u).trans (by unfold fG;rw[V0 p u])⟩,?_⟩;rw[e2]at d;exact d
  ·exact⟨1,_,_,_,.done s.ok e1,s.hi,s.ks,i e1,.inl ⟨e2,e3,e4⟩⟩
  ·exact⟨1,_,_,_,.done s.ok e1,s.hi,s.ks,i e1,.inr ⟨e2,e3,e4⟩⟩
termination_by n=>n
theorem Fo:∀(n:Nat) {H:Hw} {held:List Pc} {s0:Sp} {g:Th} {p:Ph},HI H held s0->H.bQ[t]?=some g->g.ph=some p->k7 p->pv g p<=n →
 ∃m H' e,iC m H t p H' 0 e/\(∃held s0,HI H' held s0)/\KS H.sp H'.sp/\wD H H' t/\((∀x,p≠.find x)->e=0/\H'.live=H.live) ∧
  (∀x,p=.find x->(bW H.live x=none->e≠0/\H'.live=H.live)/\(∀b,bW H.live x=some b->e=0/\H'.live=cS H.live x))
 | n,H,held,s0,g,p,h,hg,hp,hf,hn=>by
  have ht:=(cW.1 hg).1;obtain⟨s,L,K,F,a⟩:=p8 h hg hp hf;rcases K with⟨p',C,e1,e2,e3,e4,e5⟩|e1
  ·obtain⟨A,Q,P⟩:=s.hi;obtain⟨R,i,kG⟩:=UO (p:=p) ht;rw[e4]at i;cases i;have N:pv C p'<n:=by omega
   obtain⟨m,H',e,r,hi,ks,G,B,_⟩:=Fo (pv C p') P e4 (kG.trans e1) e2 (zD _);obtain⟨J,E⟩:=B e3;refine⟨m+1,H',e,.next s.ok e1 r,hi,s.ks.trans ks,⟨G.1,λj u=>(G.2 j u).trans (by unfold fG;rw[V0 p u])⟩,λd=>⟨J,E.trans (F d).2⟩,λx d=>⟨λy=>?_,λb M=>⟨J,E.trans ((a x d).2 b M).2⟩⟩⟩;have:=((a x d).1 y).1;rw[e1]at this;cases this
  ·have D:wD H (Qr H t p) t:=by
    obtain⟨C,w,z⟩:=UO (p:=p) ht;exact⟨by unfold fG;rw[w];exact z.trans e1,λj u=>by unfold fG;rw[V0 p u]⟩
   have r:=iC.done (H:=H) (t:=t) s.ok e1;rw[L]at r;exact⟨1,_,_,r,s.hi,s.ks,D,F,λx d=>⟨λy=>((a x d).1 y).2,(a x d).2⟩⟩
termination_by n=>n
structure fX (H H':Hw):Prop where
 hi:∃held s0,HI H' held s0
 ks:KS H.sp H'.sp
 kp:Qt H' H
 ph:∀j,fG H' j=fG H j
theorem fX.refl (h:HI H held s0):fX H H:=⟨⟨held,s0,h⟩,KS.refl _,Qt.refl _,λ_=>rfl⟩
theorem fX.trans {H1 H2 H3:Hw}(a:fX H1 H2)(b:fX H2 H3):fX H1 H3:=⟨b.hi,a.ks.trans b.ks,a.kp.trans b.kp,λj=>(b.ph j).trans (a.ph j)⟩
theorem Ii {tb:List bZ}{kind size align addr:Int}{p:Ph}(h:iH tb kind size align addr=some p)(hx:iE addr)(hh:g.bP=[]):ik tb.length {g with ph:=some p}:=by
 unfold iH at h;split at h
 ·split at h
  ·split at h
   ·split at h
    ·rename_i k hk;cases h;exact⟨hh,Fg hk⟩
    ·cases h;exact⟨hh,O,O⟩
   ·cases h
  ·cases h
 ·split at h
  ·cases h;exact⟨hh,hx⟩
  ·split at h
   ·cases h;exact hh
   ·cases h
theorem HI.eN (h:HI H held s0)(hg:H.bQ[t]?=some g)(hn:g.ph=none){p:Ph}(hp:ik H.tb.length {g with ph:=some p})(hq:∀s a,p≠.dC s a):HI (eN H t (some p)) held s0:=by
 have b:=h.th g (h.mem hg);have e:Go.Ar.eN H t (some p) = {H with bQ:=H.bQ.set t {g with ph:=some p}}:=Zr hg _;rw[e];refine h.kf hg (live':=H.live) (λi x=>?_) h.lk (λj d=>.inl d) (λs a hp=>by cases hp;exact(hq s a rfl).elim) ⟨b.ll,b.lo,b.hb,b.hl,hp⟩;unfold gI;rw[hn];have:jC (some p) i x=0:=by
  cases p<;>first|rfl|exact(hq _ _ rfl).elim
 simp only[this];simp only[jC]
theorem EM (h:HI H held s0)(hg:H.bQ[t]?=some g)(hn:g.ph=none):g.bP=[]:=by
 have:=(h.th g (h.mem hg)).ph;unfold ik at this;rw[hn]at this;exact this
theorem HQ (H:Hw)(thread kind size align addr:Int):(∃e,Kd H thread kind size align addr=.inl e/\e≠0)\/∃(t:Nat) (p:Ph) (g:Th),thread=(t:Int)/\H.bQ[t]?=some g/\g.ph=none/\iH H.tb kind size align addr=some p/\Kd H thread kind size align addr=.inr (t,p):=by
 unfold Kd;split
 ·split
  ·split
   ·split
    ·rename_i hth _ g hg hn _ p hp;exact .inr ⟨thread.toNat,p,g,O,hg,hn,hp,rfl⟩
    ·exact .inl ⟨1,rfl,by decide⟩
   ·exact .inl ⟨5,rfl,by decide⟩
  ·exact .inl ⟨1,rfl,by decide⟩
 ·exact .inl ⟨1,rfl,by decide⟩
theorem Pr (hg:H.bQ[t]?=some g)(p:Option Ph)(hj:j≠t):fG (eN H t p) j=fG H j:=by
 unfold fG eN;rw[Kv _ hj]
theorem DT (hg:H.bQ[t]?=some g)(hn:g.ph=none){p:Ph}(ps:wD (eN H t (some p)) H' t):∀j,fG H' j=fG H j:=λj=>by
 by_cases hj:j=t
 ·subst hj;rw[ps.1];unfold fG;rw[hg];exact hn.symm
 ·rw[ps.2 j hj,Pr hg _ hj]
def qc (H:Hw)(size align:Int)(H':Hw)(a e:Int):Prop:=(e≠0/\a=0/\H'.live=H.live) ∨
 (e=0/\bW H.live a=none/\(1<=size/\size<=16384/\Uw size align=true)/\∃cl,H'.live=dB H.live a (a,(GN H.tb size align).1,cl,XO H'.bY a)/\((∃k:Nat,cl=k/\gL H.tb size align=some k)\/cl = -1/\gL H.tb size align=none))
theorem I3 (h:HI H held s0)(thread size align:Int):∃H' a e,Uf H thread 0 size align 0 H' a e/\fX H H'/\qc H size align H' a e:=by
 rcases HQ H thread 0 size align 0 with⟨e,hs,hne⟩|⟨t,p,g,rfl,hg,hn,hq,hs⟩
 ·exact⟨H,0,e,.inl ⟨hs,hne,rfl,rfl⟩,fX.refl h,.inl ⟨hne,rfl,rfl⟩⟩
 ·have D:=EM h hg hn;have w:=Ii (g:=g) hq (by unfold iE;decide) D;unfold iH at hq;rw[zC rfl]at hq;split at hq
  ·rename_i hsz;split at hq
   ·rename_i hok;have b:GN H.tb size align=(match gL H.tb size align with
     | some k=>((H.tb.getD k ⟨8,1,1⟩).size:Int)
     | none=>yq size,0):=by
     unfold GN;rw[zC ⟨hsz.2,hok⟩]
     first|done | (cases gL H.tb size align<;>rfl)
    obtain⟨cl,d,y⟩:∃cl,Rq H.tb {g with ph:=some p} p cl (GN H.tb size align).1/\((∃k:Nat,cl=k/\gL H.tb size align=some k)\/cl = -1/\gL H.tb size align=none):=by
     cases hcv:gL H.tb size align with
     | some k=>
      rw[hcv]at hq b;cases hq;have u:=Fg hcv;have z:H.tb[k]?=some H.tb[k]:=cV u;refine⟨k,⟨rfl,H.tb[k],z,?_⟩,.inl ⟨k,rfl,rfl⟩⟩;rw[b];simp only;rw[zP,z];rfl
     | none=>
      rw[hcv]at hq b;cases hq;refine⟨-1,⟨rfl,?_⟩,.inr ⟨rfl,rfl⟩⟩;rw[b];simp only;unfold yq;omega
    have i:∀s a,p≠.dC s a:=λs a e=>by subst e;exact d.elim
    have B:=h.eN hg hn w i;have j:(Go.Ar.eN H t (some p)).bQ[t]?=some {g with ph:=some p}:=by
     have A:=(cW.1 hg).1;have e:Go.Ar.eN H t (some p) = {H with bQ:=H.bQ.set t {g with ph:=some p}}:=Zr hg _;rw[e];simp[A]
    obtain⟨m,H',a,e,r,E,ks,C,x⟩:=EG _ B j rfl d (zD _);refine⟨H',a,e,.inr ⟨t,p,m,hs,r⟩,⟨E,ks,(KD _ _ _).trans (Ie r),DT hg hn C⟩,?_⟩;rcases x with⟨r1,r2,r3⟩|⟨r1,r2,r3⟩
    ·exact .inl ⟨r1,r2,r3⟩
    ·exact .inr ⟨r1,r2,⟨hsz.1,hsz.2,hok⟩,cl,r3,y⟩
   ·cases hq
  ·cases hq
def oQ (H:Hw)(thread addr:Int)(H':Hw)(e:Int):Prop:=
 (e≠0/\H'=H/\Kd H thread 1 0 0 addr=.inl e)\/((∃p,Kd H thread 1 0 0 addr=.inr p)/\bW H.live addr=none/\e≠0/\H'.live=H.live)\/((∃p,Kd H thread 1 0 0 addr=.inr p)/\∃b,bW H.live addr=some b/\e=0/\H'.live=cS H.live addr)
theorem NU (h:HI H held s0)(hg:H.bQ[t]?=some g)(hn:g.ph=none){p:Ph}(hp:ik H.tb.length {g with ph:=some p})(hf:k7 p)(hq:∀s a,p≠.dC s a):∃m H' e,iC m (eN H t (some p)) t p H' 0 e/\fX H H'/\((∀x,p≠.find x)->e=0/\H'.live=H.live) ∧
 (∀x,p=.find x->(bW H.live x=none->e≠0/\H'.live=H.live)/\(∀b,bW H.live x=some b->e=0/\H'.live=cS H.live x)):=by
 have y:=h.eN hg hn hp hq;have d:(Go.Ar.eN H t (some p)).bQ[t]?=some {g with ph:=some p}:=by
  have w:=(cW.1 hg).1;have e:Go.Ar.eN H t (some p) = {H with bQ:=H.bQ.set t {g with ph:=some p}}:=Zr hg _;rw[e];simp[w]
 obtain⟨m,H',e,r,j,ks,i,u,z⟩:=Fo _ y d rfl hf (zD _);exact⟨m,H',e,r,⟨j,ks,(KD _ _ _).trans (Ie r),DT hg hn i⟩,u,z⟩
theorem Pv (h:HI H held s0)(thread addr:Int)(hx:iE addr):∃H' e,Uf H thread 1 0 0 addr H' 0 e/\fX H H'/\oQ H thread addr H' e:=by
 rcases HQ H thread 1 0 0 addr with⟨e,hs,hne⟩|⟨t,p,g,rfl,hg,hn,hq,hs⟩
 ·exact⟨H,e,.inl ⟨hs,hne,rfl,rfl⟩,fX.refl h,.inl ⟨hne,rfl,hs⟩⟩
 ·have d:=Ii (g:=g) hq hx (EM h hg hn);have j:p=.find addr:=by unfold iH at hq;simp at hq;exact hq.symm
  subst j;obtain⟨m,H',e,r,op,_,i⟩:=NU h hg hn d trivial (λs a e=>by cases e);refine⟨H',e,.inr ⟨t,_,m,hs,r⟩,op,?_⟩;cases hm:bW H.live addr with
  | none=>exact .inr (.inl ⟨⟨_,hs⟩,hm,(i addr rfl).1 hm⟩)
  | some b=>exact .inr (.inr ⟨⟨_,hs⟩,b,hm,(i addr rfl).2 b hm⟩)
end Go.Ar
namespace Go.Ar
open Go Go.Vc Go.Proofs
variable {U u w w':Hp}{F B P Q:Rg}{L:dK}{H H':Hw}{t n k:Nat}{A:AR}{Y:Lay}
theorem Fr.refl (A:AR):Fr A A:=⟨rfl,rfl,rfl⟩
theorem Fr.trans {A B C:AR}(h:Fr B A)(k:Fr C B):Fr C A:=⟨k.1.trans h.1,k.2.1.trans h.2.1,k.2.2.trans h.2.2⟩
end Go.Ar
namespace Go.Ar
variable {A:AR}
def qv (tb:List bZ)(n room m:Nat):Wd:=⟨tb,K0 n,List.replicate m (fo n room tb),[]⟩
theorem OU {n room:Nat}{tb:List bZ}(h1:32<=n)(h2:n<=1024)(h3:n%16=0)(h6:tb.length<=40)(h7:∀c∈tb,c.ok):GA (fo n room tb)/\∀p,(fo n room tb).f p=0:=by
 have i:∀p,(fo n room tb).f p=0:=λp=>by
  show(List.replicate n 0).getD p 0=0;rw[zP,mr];split<;>rfl
 have b:∀{k:Nat} {g:List cF},(List.replicate tb.length ([]:List cF))[k]?=some g->g=[]:=λh=>by
  rw[mr]at h;split at h<;>simp at h;exact h
 have a:∀{k:Nat} {t:gC},(List.replicate tb.length (⟨0,[]⟩:gC))[k]?=some t->t.bs=[]:=λh=>by
  rw[mr]at h;split at h<;>simp at h;rw[←h]
 refine⟨⟨⟨by simp[fo],h1,h2,h3,λp=>by rw[i];omega,λp=>by rw[i];simp[fo],λp=>by rw[i];simp[fo,Go.Bu.iq],λp=>by rw[i,i]⟩,h6,by simp[fo],by simp[fo],λk c g d=>?_,λk c g d s m=>?_,λk c g d p=>?_,λp=>?_,λp=>.inr (Nat.zero_le _),by simp[fo],by simp[fo],λk t j=>?_,λk c g t d j=>?_,λk c t d j=>?_⟩,i⟩
 ·have e:=b d.2;subst e;exact⟨h7 c (zG d.1),by simp,by simp⟩
 ·have e:=b d.2;subst e;simp at m
 ·have e:=b d.2;subst e;constructor
  ·intro h;cases h
  ·rintro⟨s,m,_⟩;simp at m
 ·constructor
  ·intro h;cases h
  ·rintro⟨r,hr,_⟩;simp[fo]at hr
 ·have:=a j;rw[this];exact sL
 ·have:=a j;rw[this];simp
 ·have:=a j;rw[this];simp
theorem MY {tb:List bZ}{n room m:Nat}(h1:32<=n)(h2:n<=1024)(h3:n%16=0)(h6:tb.length<=40)(h7:∀c∈tb,c.ok):WI (qv tb n room m):=by
 obtain⟨x,d⟩:=OU (room:=room) h1 h2 h3 h6 h7;have get:∀{k:Nat} {A:AR},(qv tb n room m).bY[k]?=some A->A=fo n room tb:=λ{k A} h=>by
  have h:(List.replicate m (fo n room tb))[k]?=some A:=h;rw[mr]at h;split at h<;>simp at h;exact h.symm
 have b:∀p,gf (K0 n).st p=0:=λp=>by
  show(List.replicate n 0).getD p 0=0;rw[zP,mr];split<;>rfl
 refine⟨λk A h=>by rw[get h];exact x,λk A h=>?_,λk A h=>by rw[get h];rfl,λk A h p a=>by rw[get h];exact d p,λp a=>(a (b p)).elim,λp k l A B E G h1 h2=>?_,sL,λp a=>by simp[qv]at a,λk A h j y w=>?_,λk A h r u=>?_⟩
 ·rw[get h];exact⟨by simp[qv,K0,fo],λp a=>(a (d p)).elim,λp a=>by rw[d p]at a;omega,λp=>by show gf (K0 n).st p<=2;rw[b];omega⟩
 ·rw[get E]at h1;exact(h1 (d p)).elim
 ·rw[get h]at w;obtain⟨c,D,g,C⟩:=w;have e:D=[]:=by
   have h2:=g.2;simp only[fo]at h2;rw[mr]at h2;split at h2<;>simp at h2;exact h2
  subst e;obtain⟨F,s,i,z,_⟩:=(Vu (x.cE _ _ _ g)).1 C;simp at z
 ·rw[get h]at u;simp[fo]at u
end Go.Ar
namespace Go.Ar
open Go.Vc (bW dB cS)
variable {H H':Hw}{held:List Pc}{s0:Sp}{t k j:Nat}{g:Th}{A:AR}{c:bZ}
theorem Pn {tb:List bZ}{cf:Cf}(h1:32<=cf.aF)(h2:cf.aF<=1024)(h3:cf.aF%16=0)(h4:1<=cf.hU)(h6:tb.length<=40)(h7:∀c∈tb,c.ok):HI (VJ tb cf) [] (K0 cf.aF):=by
 have y:=MY (tb:=tb) (n:=cf.aF) (room:=cf.room) (m:=cf.hU) h1 h2 h3 h6 h7;have d:∀g∈(VJ tb cf).bQ,g=⟨List.replicate tb.length ia,[],none⟩:=λg i=>(xK.1 i).2;have r:∀k,(List.replicate tb.length ia).getD k ia=ia:=λk=>by
  rw[zP,mr];split<;>rfl
 refine⟨y,ji.refl _,λk x=>?_,sL,λe z=>by simp[VJ]at z,λg i s a j=>?_,λg i=>?_,h7,?_,?_⟩
 ·have B:∀(n:Nat) (f:Th->Nat) (g:Th),f g=0->((List.replicate n g).map f).sum=0:=λn f g h=>by
   rw[tQ,h]
   induction n with
   | zero=>rfl
   | succ n ih=>rw[vF,nA,ih]
  have u:gI ⟨List.replicate tb.length ia,[],none⟩ k x=0:=by
   unfold gI lP;split
   ·simp only[r];rfl
   ·rfl
  have:pY (VJ tb cf) k x=0:=by
   unfold pY;show lY [] k x+((List.replicate cf.threads (⟨List.replicate tb.length ia,[],none⟩:Th)).map λg=>gI g k x).sum=0;rw[B _ _ _ u];rfl
  rw[this,Q3];rintro⟨p,j,_⟩;simp at j
 ·rw[d g i]at j;cases j
 ·rw[d g i];refine⟨by simp[VJ],λl A=>?_,λb w=>by simp at w,by simp,by unfold ik;rfl⟩;rw[(xK.1 A).2];exact⟨fJ.nil,by simp[ia]⟩
 ·show 1<=(List.replicate cf.hU (fo cf.aF cf.room tb)).length;simpa using h4
 ·show(List.replicate cf.aF 0).length=cf.aF;simp
def KL (H H':Hw):Prop:=∀e∈H.live,∀w:Nat,e.1<=((8*w:Nat):Int)->((8*w:Nat):Int)<e.1+e.2.2.1->H'.sp.wd w=H.sp.wd w
theorem HI.xy (h:HI H held s0):WI ⟨H.tb,s0,H.bY,held⟩:=h.wi
theorem HI.mapped (h:HI H held s0){p:Pc}(hp:p∈held){x:Nat}(h1:p.addr<=x)(h2:x<p.addr+p.size):gf H.sp.st (x/256)≠0:=by
 obtain⟨A,a,_⟩:=h.wi.hf p hp;have e1:=h.wi.qI hp a h1 h2;have:=(h.wi.ow _ A a).own (x/256) O;intro hz;exact this ((h.mI.z _).1 hz)
theorem HI.kl (h:HI H held s0)(k:KS H.sp H'.sp):KL H H':=λe d w m g=>by
 obtain⟨_,p,b,_,_,j,i,_⟩:=h.lv e d;have a:=h.mapped b (x:=8*w) O O;exact(k.k _ a).2 w O
theorem KL.refl (H:Hw):KL H H:=λ_ _ _ _ _=>rfl
theorem KL.trans {H1 H2 H3:Hw}(a:KL H1 H2)(b:KL H2 H3)(hl:∀e∈H1.live,e∈H2.live):KL H1 H3:=λe i w g d=>(b e (hl e i) w g d).trans (a e i w g d)
structure mD (H H':Hw):Prop where
 hi:∃held s0,HI H' held s0
 live:H'.live=H.live
 bQ:H'.bQ=H.bQ
 kp:Qt H' H
 kl:KL H H'
theorem mD.refl (h:HI H held s0):mD H H:=⟨⟨_,_,h⟩,rfl,rfl,Qt.refl _,KL.refl _⟩
theorem mD.trans {H1 H2 H3:Hw}(a:mD H1 H2)(b:mD H2 H3):mD H1 H3:=⟨b.hi,b.live.trans a.live,b.bQ.trans a.bQ,a.kp.trans b.kp,a.kl.trans b.kl λe d=>by rw[a.live];exact d⟩
theorem HI.n (h:HI H held s0)(hk:H.bY[k]?=some A):A.n=H.cf.aF:=by
 have:=(h.wi.ow k A hk).l;have a:=h.mI.l;have b:=h.sl;simp only at this;omega
theorem WI.wd {W:Wd}(h:WI W)(f:Nat->Int):WI {W with sp:={W.sp with wd:=f}}:=
 ⟨h.ga,λk A hk=>⟨(h.ow k A hk).l,(h.ow k A hk).own,(h.ow k A hk).cl,(h.ow k A hk).le⟩,h.tb,h.low,h.own,h.one,h.hk,h.hf,h.ht,h.hr⟩
theorem M6 {sp:Sp}{x:Int}(h:eT sp x=0):0<=x/\x%8=0/\gf sp.st (x.toNat/256)≠0:=by
 unfold eT at h;split at h
 ·cases h
 ·split at h
  ·cases h
  ·exact⟨O,O,by assumption⟩
theorem CN (sp:Sp)(x v:Int):(ZV sp x v).st.length=sp.st.length/\(∀p,gf (ZV sp x v).st p=0↔gf sp.st p=0)/\∀w,(ZV sp x v).wd w=if eT sp x=0/\w=x.toNat/8 then v else sp.wd w:=by
 unfold ZV;split
 ·rename_i h0;have a:=M6 h0;refine⟨by simp[ny],λp=>?_,λw=>?_⟩
  ·show gf (sp.st.set (x.toNat/8/32) 2) p=0↔_;have b:x.toNat/8/32=x.toNat/256:=by omega
   rw[b];unfold gf at a ⊢;rw[zP]at a ⊢;rw[zP,mO];split
   ·rename_i he;split
    ·rw[←he];simp only[pH];exact⟨λh=>O,λh=>(a.2.2 h).elim⟩
    ·rename_i hl;rw[zV O]at a;exact(a.2.2 rfl).elim
   ·exact Iff.rfl
  ·show(if w=x.toNat/8 then v else sp.wd w)=_
   by_cases hw:w=x.toNat/8
   ·rw[zC hw,zC ⟨h0,hw⟩]
   ·rw[zB hw,zB λh=>hw h.2]
 ·exact⟨rfl,λ_=>Iff.rfl,λw=>by rw[zB λh=>by have:=h.1;contradiction]⟩
theorem HI.write (h:HI H held s0)(x v:Int):HI {H with sp:=ZV H.sp x v} held {s0 with wd:=(ZV H.sp x v).wd}:=by
 obtain⟨a,b,_⟩:=CN H.sp x v;exact⟨h.wi.wd _,⟨a.trans h.mI.l,λp=>(b p).trans (h.mI.z p),rfl⟩,h.cn,h.lk,h.lv,h.gv,h.th,h.ok,h.a1,a.trans h.sl⟩
end Go.Ar
namespace Go.Ar
open Go Go.Vc Go.Proofs
variable {U u w w':Hp}{F B P Q:Rg}{L:dK}{H H':Hw}{t n:Nat}{g:Th}
end Go.Ar
namespace Go.Proofs
open Go.Vc
set_option maxRecDepth 100000
def WR.h:Hn:=.q .o2 (.q (.q (.cR (.seq [.op,.op,.op,.cX false 2 [.op,.op]])) .aJ) (.q .o1 (.q .o1 (.q (.k (.loop [(4,.one .s),(5,.I)] (.q (.q .o2 (.c .l .l)) (.k (.q .o7 .o6))))) (.q .o6 (.q .o1 (.q (.q .o1 (.k (.loop [(6,.one .s),(7,.I)] (.q (.q .o4 (.c .l .l)) (.q (.k (.q (.cR (.gA true [] [(70,.one .b)] (.tk [0,1,2,3,4,5] (.split 43 (.tk [6,7,8,9,10,11,12,13,14,15,16,17,18,19,20,21,22,23,24,25,26,27,28,29,30,31,32] (.done)) (.tk [6,7,8,9,10,11,12,13,14,15,16,17,18,19] (.split 57 (.tk [20,21,22,23,24,25,26,27,28,29,30,31,32] (.done)) (.tk [20,21,22,23,25,26,27,28,29] (.all [(24,.all [(30,.take 31 (.take 32 (.done)))])])))))))) (.c .o8 .l))) .o3))))) (.q .o3 .l))))))))
def WR.v (a:Int)(b:Hp)(c:Sl->Int->Hp->Prop):Prop:=bV (λd e=>If d (c ⟨none,0,0⟩ 1 e) (Ys [.s,bN] (λf=>f ⟨none,0,0⟩ 8 e) λg (h:Sl) (i:Int) j=>If (i<512) (Xa.c i a j λk l m n=>aV #[.I k,.I l,.I m] 137 n λo p=>App h 3 24 137 [.I 0,.I 0,.I 0] ⟨some o,1,1⟩ p λq r=>XG.c i a r λs t=>bL (i+s) λu=>g q u t) (Xa.c 512 a j λv w x y=>aV #[.I v,.I w,.I x] 137 y λz aa=>App h 3 24 137 [.I 0,.I 0,.I 0] ⟨some z,1,1⟩ aa λab ac=>Ys [.s,bN] (λad=>ad ⟨none,0,0⟩ 0 ac) λae (af:Sl) (ag:Int) ah=>If (ag<((ab.len:Nat):Int)) (Jn [.b] (λ(ai:Bool) aj=>If ai (Ix ab.a ab.len ag 3 λak=>aQ ak 0 aj λal=>aQ ak 1 aj λam=>aQ ak 2 aj λan=>aV #[.I al,.I am,.I an] 137 aj λao ap=>App af 3 24 137 [.I 0,.I 0,.I 0] ⟨some ao,1,1⟩ ap λaq ar=>bL (ag+1) λau=>ae aq au ar) (bL (ag+1) λav=>ae af av aj)) λaw=>eI ah λax=>bL (((ab.len:Nat):Int)-1) λay=>If (ag==ay) (aw true ah) (Ix ab.a ab.len ag 3 λaz=>aS ax az 1 λa0=>bL (ag+1) λa1=>Ix ab.a ab.len a1 3 λa2=>aS ax a2 1 λa3=>If (a0 != a3) (aw true ah) (Ix ab.a ab.len ag 3 λa4=>aS ax a4 0 λa5=>aS ax a4 1 λa6=>aS ax a4 2 λa7=>bL (ag+1) λa8=>Ix ab.a ab.len a8 3 λa9=>aS ax a9 0 λba=>aS ax a9 1 λbb=>aS ax a9 2 λbc=>WL.c a5 a6 a7 ah λbd be=>
 And (ax be) <| WL.c ba bb bc be λbf bg=>And (ax bg) <| aw (bd != bf) bg))) (c af 0 ah)))) λbh=>If (a<2) (bh true b) (bh (decide (a>16)) b)
theorem WR.o {a b c}(d:WR.v a b c):WR.c a b c:=Wa Tryz.func100 (x:=WR.h) (R0 d)
def Xa.h:Hn:=.q .o1 (.q .o8 (.q (.q .o1 (.k (.loop [(6,.I)] (.q (.q .o2 (.c .l .l)) (.q (.k (.q (.cR (.seq [.op,.op,.op,.op,.op,.cX true 9 (RI.ops 9)])) (.c .o3 .l))) .o3))))) .aL))
def Xa.v (a b:Int)(c:Hp)(d:Int->Int->Int->Hp->Prop):Prop:=aV #[.I 0,.I 0,.I 0] 137 c λe f=>Nz a<|bL ((512:Int).tdiv a) λg=>aV #[.I 0,.I 0,.I 0] 137 f λh i=>aR h 0 (.I a) i λj=>aR h 1 (.I 4) j λk=>aR h 2 (.I (if 32<(if 2>g then 2 else g)then 32 else(if 2>g then 2 else g))) k λl=>Ys [bN] (λm=>m 4 l) λn (o:Int) p=>If (o≥1) (bL (o*256) λq=>bV (λr s=>If r (aR h 1 (.I o) s λt=>bL (o-1) λu=>n u t) (bL (o-1) λv=>n v s)) λw=>If (q≥a) (bL (o*256) λx=>Nz a <| bL (b*(x.tmod a)) λy=>bL (o*256) λz=>w (decide (y<=z)) p) (w false p)) (aQ h 0 p λaa=>aQ h 1 p λab=>aQ h 2 p λac=>aR e 0 (.I aa) p λad=>aR e 1 (.I ab) ad λae=>aR e 2 (.I ac) ae λaf=>aQ e 0 af λag=>aQ e 1 af λah=>aQ e 2 af λai=>d ag ah ai af)
theorem Xa.o {a b c d}(e:Xa.v a b c d):Xa.c a b c d:=Wa Tryz.func137 (x:=Xa.h) (R0 e)
def XG.h:Hn:=.q .o1 (.q .o1 (.q (.k (.loop [(5,.I)] (.q (.q .o6 (.c .l .l)) (.k .o3)))) .aL))
def XG.v (a b:Int)(c:Hp)(d:aN):Prop:=Ys [bN] (λe=>e 8 c) λf (g:Int) h=>bL (2*g) λi=>Nz b<|bL (a.tdiv b) λj=>If (i<=j) (bL (2*g) λk=>f k h) (d g h)
theorem XG.o {a b c d}(e:XG.v a b c d):XG.c a b c d:=Wa Tryz.func138 (x:=XG.h) (R0 e)
def WL.h:Hn:=.q .o2 (.q .o1 (.q (.k (.loop [(3,.I)] (.q (.q .o9 (.c .l .l)) (.k .o3)))) .aL))
def WL.v (a b c:Int)(d:Hp)(e:aN):Prop:=aV #[.I a,.I b,.I c] 137 d λf g=>Ys [bN] (λh=>h 0 g) λi (j:Int) k=>bL (j+1) λl=>aQ f 0 k λm=>bL (l*m) λn=>aQ f 1 k λo=>bL (o*256) λp=>If (n<=p) (bL (j+1) λq=>i q k) (e j k)
theorem WL.o {a b c d e}(f:WL.v a b c d e):WL.c a b c d e:=Wa Tryz.func139 (x:=WL.h) (R0 f)
end Go.Proofs
namespace Go.Ar
open Go Go.Vc Go.Proofs
variable {U w:Hp}
abbrev T3:=Int×Int×Int
def v3 (x:T3):List Value:=[.int .i64 x.1,.int .i64 x.2.1,.int .i64 x.2.2]
def j6 (l:List T3):List Value:=l.flatMap v3
theorem VC (l:List T3):(j6 l).length=l.length*3:=by
 induction l with
 | nil=>rfl
 | cons x l ih=>simp only[j6,oS,zO,v3,zY,lK]at *;omega
theorem Am (l:List T3)(x:T3):j6 (l++[x])=j6 l++v3 x:=by simp[j6]
theorem Hz:∀{l:List T3} {i:Nat} {x:T3},l[i]?=some x->∀{d:Nat},d<3->(j6 l)[i*3+d]?=(v3 x)[d]?
 | [],_,_,h,_,_=>by simp at h
 | y::l,0,x,h,d,hd=>by
  simp at h;subst h;have e:j6 (y::l)=v3 y++j6 l:=rfl;rw[e,ze (by simp[v3];omega)];congr 1;omega
 | y::l,i+1,x,h,d,hd=>by
  have e:j6 (y::l)=v3 y++j6 l:=rfl;have a:(v3 y).length=3:=rfl;rw[e,zp O,a,show(i+1)*3+d-3=i*3+d by omega];exact Hz (by simpa using h) hd
theorem EE {Q:Rg}{s:Sl}{l:List T3}(h:Go.Vc.Own Q U s 3 (j6 l)):ic U s l:=by
 have m:=h.1;rw[VC]at m;refine⟨O,λi x y z e=>?_⟩;obtain⟨b,d,g⟩:=h.cell (j:=i*3+0) (v:=.int .i64 x) ((Hz e O).trans rfl);obtain⟨p,a,u⟩:=h.cell (j:=i*3+1) (v:=.int .i64 y) ((Hz e O).trans rfl);rw[d]at a;cases a;obtain⟨p,a,r⟩:=h.cell (j:=i*3+2) (v:=.int .i64 z) ((Hz e O).trans rfl);rw[d]at a;cases a;refine⟨b,0,d,QZ g,?_,?_,?_⟩
 ·rw[show 0+i*3=i*3+0 by omega];exact g
 ·rw[show 0+i*3+1=i*3+1 by omega];exact u
 ·rw[show 0+i*3+2=i*3+2 by omega];exact r
def tD (s w:Int)(n:Nat):Int:=([4,3,2,1].take n).foldl (λ(r p:Int)=>if s<=p*256/\w*((p*256)%s)<=p*256 then p else r) 4
def xN (s:Int):Int:=min 32 (max 2 (512/s))
def kV (s w:Int):T3:=(s,tD s w 4,xN s)
def vf:Nat->Int->Int->Int
 | 0,d,_=>d
 | n+1,d,q=>if 2*d<=q then vf n (2*d) q else d
def wz (s w:Int):Int:=vf 8 8 (s/w)
def l9 (x:T3):Int:=x.2.1*256/x.1
theorem PI (s w:Int)(n:Nat):1<=tD s w n/\tD s w n<=4:=by
 have key:∀(l:List Int) (r:Int),(∀p∈l,1<=p/\p<=4)->1<=r/\r<=4->1<=l.foldl (λ(r p:Int)=>if s<=p*256/\w*((p*256)%s)<=p*256 then p else r) r/\l.foldl (λ(r p:Int)=>if s<=p*256/\w*((p*256)%s)<=p*256 then p else r) r<=4:=by
  intro l
  induction l with
  | nil=>intro r _ h;exact h
  | cons p l ih=>
   intro r hl hr;rw[qk];refine ih _ (λq a=>hl q (nF _ a)) ?_;split
   ·exact hl p py
   ·exact hr
 refine key _ _ (λp b=>?_) O;have:=uW b;simp at this;omega
theorem Ik (s w:Int)(h1:8<=s)(h2:s<=512)(hw1:2<=w)(hw2:w<=16){R:Int->Int->Int->Hp->Prop}(hR:∀σ',bK U σ'->R (kV s w).1 (kV s w).2.1 (kV s w).2.2 σ'):Xa.c s w U R:=by
 refine Xa.o ?_;unfold Xa.v;have Y:1<=512/s/\512/s<=64:=⟨by rw[Int.le_ediv_iff_mul_le O];omega,Int.ediv_le_of_le_mul O O⟩;refine nw (cs:=[.int .i64 0,.int .i64 0,.int .i64 0]) λv hz e K=>nz O (ar (by rw[XP O];omega) (by rw[XP O];omega) ?_);rw[XP O];refine nw (cs:=[.int .i64 0,.int .i64 0,.int .i64 0]) λv1 Q e1 E=>E.s1 aA λv2 o2 y=>y.s1 aA λL o3 m=>m.s1 aA λv4 o4 b4=>?_;have d:U.size≠v.size:=by omega
 have C:=Ws o4 (Ws o3 (Ws o2 (e1.bT K id) d) d) d;have H:bK U v4:=((((e.trans e1).only o2 (.inr O)).only o3 (.inr O)).only o4 (.inr O));have p:(if 32<(if 2>512/s then 2 else 512/s)then 32 else(if 2>512/s then 2 else 512/s))=xN s:=by unfold xN;omega
 rw[p]at b4;refine Z6 (a:=bN) (λ(z:Int) u=>∃n:Nat,n<=4/\z=4-(n:Int)/\bK U u/\bX u U.size [.int .i64 0,.int .i64 0,.int .i64 0]/\bX u v.size [.int .i64 s,.int .i64 (tD s w n),.int .i64 (xN s)]) (λz _=>z.toNat) ⟨0,O,rfl,H,C,b4⟩ ?_;rintro(z:Int) u ⟨n,hn,rfl,eu,hu,bu⟩;refine cQ (λS=>?_) λP=>?_
 ·have aa:n<4:=by omega
  have b:tD s w (n+1)=if s<=(4-(n:Int))*256/\w*(((4-(n:Int))*256)%s)<=(4-(n:Int))*256 then 4-(n:Int)else tD s w n:=by
   have X:([4,3,2,1]:List Int)[n]?=some (4-(n:Int)):=by
    rcases(show n=0\/n=1\/n=2\/n=3 by omega)with rfl|rfl|rfl|rfl<;>rfl
   unfold tD;rw[k6,X,wH];rfl
  refine ar O O ?_;refine KF (λr G=>G=u/\r=decide (s<=(4-(n:Int))*256/\w*(((4-(n:Int))*256)%s)<=(4-(n:Int))*256)) (λr G ⟨D,x⟩=>?_) λJ F=>?_
  ·subst D;by_cases hc:s<=(4-(n:Int))*256/\w*(((4-(n:Int))*256)%s)<=(4-(n:Int))*256
   ·rw[zJ hc]at x;rw[zC hc]at b;refine cD x (bu.s1 aA λV o1 A=>ar O O ⟨⟨n+1,O,O,eu.only o1 (.inr O),Ws o1 hu d,by rw[b];exact A⟩,O⟩)
   ·rw[zM hc]at x;rw[zB hc]at b;exact cB x (ar O O ⟨⟨n+1,O,O,eu,hu,by rw[b];exact bu⟩,O⟩)
  ·have j:=Int.emod_nonneg ((4-(n:Int))*256) (show s≠0 by omega);have M:=Ax ((4-(n:Int))*256) (show 0<s by omega);have Z:w*(((4-(n:Int))*256)%s)<=16*512:=Int.mul_le_mul hw2 O j O;have N:0<=w*(((4-(n:Int))*256)%s):=Int.mul_nonneg O j;refine cQ (λh1=>ar O O (nz O ?_)) λh1=>F _ _ ⟨rfl,(zM λg=>h1 g.1).symm⟩;rw[Qg O];refine ar O O (ar O O (F _ _ ⟨rfl,?_⟩));rw[decide_eq_decide];exact⟨λg=>⟨h1,g⟩,λg=>g.2⟩
 ·have B:n=4:=by omega
  subst B;refine bu.rI rfl (bu.rI rfl (bu.rI rfl (hu.s1 aA λV o1 A=>A.s1 aA λu2 o2 y=>y.s1 aA λW o3 m=>m.rI rfl (m.rI rfl (m.rI rfl (hR W ?_))))));exact((eu.only o1 (.inr O)).only o2 (.inr O)).only o3 (.inr O)
theorem L5 (s w:Int)(h1:8<=s)(h2:s<=512)(hw1:2<=w){R:aN}(hR:8<=wz s w->wz s w<=256->R (wz s w) U):XG.c s w U R:=by
 refine XG.o ?_;unfold XG.v;have g:0<=s/w/\s/w<=256:=⟨Int.ediv_nonneg O O,by
  have:s/w<=s/2:=by
   apply Int.le_ediv_of_mul_le O;have:=Int.ediv_mul_le s (show w≠0 by omega);have j:s/w*2<=s/w*w:=Int.mul_le_mul_of_nonneg_left hw1 (Int.ediv_nonneg O O);omega
  omega⟩
 refine Z6 (a:=bN) (λ(d:Int) u=>u=U/\∃n:Nat,vf n d (s/w)=wz s w/\8<=d/\d<=256/\512<=d*2^n) (λd _=>1000-d.toNat) ⟨rfl,8,rfl,O,O,by decide⟩ ?_;rintro(d:Int) u ⟨rfl,n,hst,hd1,hd2,hdn⟩;refine ar O O (nz O (ar (by rw[XP O];omega) (by rw[XP O];omega) ?_));rw[XP O];cases n with
 | zero=>simp at hdn;omega
 | succ n=>
  refine cQ (λb=>ar O O ⟨⟨rfl,n,?_,O,O,?_⟩,O⟩) λe=>?_
  ·rw[vf,zC b]at hst;exact hst
  ·rw[Int.pow_succ]at hdn;have:2*d*2^n=d*(2^n*2):=by rw[Int.mul_comm 2 d,Int.mul_assoc,Int.mul_comm 2 (2^n)]
   omega
  ·rw[vf,zB e]at hst;rw[←hst]at hR;exact hR hd1 hd2
theorem DQ (x:T3)(h1:8<=x.1)(h2:x.1<=512)(h3:1<=x.2.1)(h4:x.2.1<=4){R:aN}(hR:∀σ',bK U σ'->R (l9 x) σ'):WL.c x.1 x.2.1 x.2.2 U R:=by
 refine WL.o ?_;unfold WL.v;refine nw (cs:=[.int .i64 x.1,.int .i64 x.2.1,.int .i64 x.2.2]) λv w e j=>?_;refine Z6 (a:=bN) (λ(n:Int) u=>bK U u/\bX u U.size [.int .i64 x.1,.int .i64 x.2.1,.int .i64 x.2.2]/\0<=n/\n<=128/\n*x.1<=x.2.1*256) (λn _=>1000-n.toNat) ⟨e,j,O,O,O⟩ ?_;rintro(n:Int) u ⟨eu,bu,hn0,hn1,hn⟩;have p:(n+1)*x.1<=129*512:=Int.mul_le_mul O h2 O O;have g:0<=(n+1)*x.1:=Int.mul_nonneg O O;refine ar O O (bu.rI rfl (ar O O (bu.rI rfl (ar O O ?_))));refine cQ (λb=>ar O O ⟨⟨eu,bu,O,?_,b⟩,O⟩) λm=>?_
 ·have:(n+1)*8<=(n+1)*x.1:=Int.mul_le_mul_of_nonneg_left h1 O;omega
 ·have:l9 x=n:=by
   unfold l9;have r:n<=x.2.1*256/x.1:=(Int.le_ediv_iff_mul_le O).2 hn;have s:x.2.1*256/x.1<n+1:=(Int.ediv_lt_iff_lt_mul O).2 O;omega
  have d:=hR u eu;rw[this]at d;exact d
end Go.Ar