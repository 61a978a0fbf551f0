/- Texts joined. -/
import Derived.Test.YteihenagckcobaaGreatDoorU5
set_option linter.unusedVariables false
set_option linter.unusedSimpArgs false
namespace Go.Ar
variable {c:bZ}{ss:List cF}
structure dF (c:bZ) (ss:List cF):Prop where
 ok:c.ok
 tk:∀s∈ss,s.tk.length=c.n
 tj:ss.Pairwise λa b=>a.st+c.aF<=b.st
def Tk (c:bZ)(ss:List cF)(x:Int):Prop:=dV c ss x=some true
def uU (c:bZ)(ss:List cF)(p:Nat):Prop:=∃s∈ss,s.st<=p/\p<s.st+c.aF
theorem dF.pos (h:dF c ss):0<c.size:=by have:=h.ok;unfold bZ.ok at this;omega
theorem dF.pg (h:dF c ss):1<=c.aF:=by have:=h.ok;unfold bZ.ok at this;omega
theorem dF.py (h:dF c ss):ss.Pairwise λa b=>a.st<b.st:=h.tj.imp λ{a b} d=>by have:=h.pg;omega
theorem dF.tC (h:dF c ss){i j:Nat}{s t:cF}(hi:ss[i]?=some s)(hj:ss[j]?=some t)(hij:i<j):s.st+c.aF<=t.st:=by
 obtain⟨a,rfl⟩:=cW.1 hi;obtain⟨b,rfl⟩:=cW.1 hj;exact k6.1 h.tj i j a b hij
theorem dF.vq (h:dF c ss){i j:Nat}{s t:cF}{p:Nat}(hi:ss[i]?=some s)(hj:ss[j]?=some t)(h1:s.st<=p)(h2:p<s.st+c.aF)(h3:t.st<=p)(h4:p<t.st+c.aF):i=j:=by
 rcases pO i j with hl|hl|hl
 ·have:=h.tC hi hj hl;omega
 ·exact hl
 ·have:=h.tC hj hi hl;omega
theorem Iq (hp:0<c.size){s:cF}{i:Nat}(hi:i<c.n):s.st*256<=at_ c s i/\at_ c s i+c.size<=(s.st+c.aF)*256:=by
 have b:=bZ.xe c;have a:(i+1)*c.size<=c.n*c.size:=l7 _ hi;unfold at_;rw[zm]at a;omega
theorem Hu (hp:0<c.size){s:cF}{i x:Nat}(hi:i<c.n)(h1:at_ c s i<=x)(h2:x<at_ c s i+c.size):s.st<=x/256/\x/256<s.st+c.aF:=by
 have:=Iq hp (s:=s) hi;omega
theorem V6 (h:dF c ss){k l:Nat}{s t:cF}{i j x:Nat}(hk:ss[k]?=some s)(hl:ss[l]?=some t)(hi:i<c.n)(hj:j<c.n)(h1:at_ c s i<=x)(h2:x<at_ c s i+c.size)(h3:at_ c t j<=x)(h4:x<at_ c t j+c.size):k=l/\s=t/\i=j:=by
 have a:=Hu h.pos hi h1 h2;have b:=Hu h.pos hj h3 h4;have e:=h.vq hk hl a.1 a.2 b.1 b.2;subst e;rw[hk]at hl;cases hl;refine⟨rfl,rfl,?_⟩;unfold at_ at *;have d:=h.pos;rcases pO i j with hl|hl|hl
 ·have:(i+1)*c.size<=j*c.size:=l7 _ hl;rw[zm]at this;omega
 ·exact hl
 ·have:(j+1)*c.size<=i*c.size:=l7 _ hl;rw[zm]at this;omega
theorem BV (h:dF c ss){s:cF}(hs:s∈ss){x:Int}{i:Nat}(hi:idx c s x=some i):i<c.n/\((s.st*256:Nat):Int)<=x/\x<(((s.st+c.aF)*256:Nat):Int)/\((at_ c s i:Nat):Int)<=x/\x<((at_ c s i+c.size:Nat):Int):=by
 obtain⟨d,b,a⟩:=(VO h.pos).1 hi;rw[h.tk s hs]at a;have:=Iq h.pos (s:=s) a;have e:at_ c s (i+1)=at_ c s i+c.size:=by unfold at_;rw[zm];omega
 rw[e]at b;omega
theorem F6 (h:dF c ss){k:Nat}{s:cF}{x:Int}{i:Nat}(hs:ss[k]?=some s)(hi:idx c s x=some i):kL c ss x=some k:=by
 obtain⟨m,e⟩:=cW.1 hs;refine ng.2 ⟨m,by rw[e,hi];rfl,λj p r=>?_⟩;have d:j<ss.length:=by omega
 obtain⟨u,g⟩:=pW.1 r;have a:=BV h (zG hs) hi;have b:=BV h (zo d) g;have:=h.tC (cT d) hs p;omega
theorem EV (h:dF c ss){x:Int}{b:Bool}:dV c ss x=some b↔∃(k:Nat) (s:cF) (i:Nat),ss[k]?=some s/\i<c.n/\x=((at_ c s i:Nat):Int)/\s.is i=b:=by
 constructor
 ·intro hx;obtain⟨k,s,i,_,a,g,e⟩:=Gq hx;obtain⟨m,j⟩:=(Ut h.pos).1 g;rw[h.tk s (zG a)]at j;exact⟨k,s,i,a,j,m,e⟩
 ·rintro⟨k,s,i,a,hi,rfl,e⟩;have p:=h.tk s (zG a);have g:obj c s ((at_ c s i:Nat):Int)=some i:=(Ut h.pos).2 ⟨rfl,O⟩;have d:idx c s ((at_ c s i:Nat):Int)=some i:=(VO h.pos).2 ⟨uY _,by have:=h.pos;unfold at_;rw[zm];omega,O⟩;rw[VC (F6 h a d) a,g,←e];rfl
theorem Vz (h:dF c ss){x:Int}:Tk c ss x↔∃(k:Nat) (s:cF) (i:Nat),ss[k]?=some s/\i<c.n/\x=((at_ c s i:Nat):Int)/\s.is i=true:=EV h
theorem Ik (h:dF c ss){x:Int}{a:Nat}:qC c ss x=some a↔∃(k:Nat) (s:cF) (i:Nat),ss[k]?=some s/\i<c.n/\a=at_ c s i/\((at_ c s i:Nat):Int)<=x/\x<((at_ c s i+c.size:Nat):Int):=by
 constructor
 ·intro hf;cases ho:kL c ss x with
  | none=>rw[Ct ho]at hf;cases hf
  | some k=>
   have j:=(ng.1 ho).1;have b:ss[k]?=some ss[k]:=cT j;rw[HV ho b]at hf;obtain⟨i,g,rfl⟩:=pt.1 hf;have:=BV h (zG b) g;exact⟨k,_,i,b,this.1,rfl,this.2.2.2.1,this.2.2.2.2⟩
 ·rintro⟨k,s,i,b,g,rfl,h1,h2⟩;have m:=h.tk s (zG b);have e:at_ c s (i+1)=at_ c s i+c.size:=by unfold at_;rw[zm];omega
  have d:idx c s x=some i:=(VO h.pos).2 ⟨h1,by rw[e];exact h2,O⟩;rw[HV (F6 h b d) b,d];rfl
theorem dF.put (h:dF c ss){k i:Nat}{s:cF}(hs:ss[k]?=some s)(v:Bool):dF c (ss.set k (s.put i v)):=by
 have r:=(cW.1 hs).1;refine⟨h.ok,λt p=>?_,?_⟩
 ·rcases yo p with p|rfl
  ·exact h.tk t p
  ·rw[show(s.put i v).tk.length=s.tk.length by simp[cF.put]];exact h.tk s (zG hs)
 ·rw[k6];intro a b ha hb hab;have d:a<ss.length:=by simpa using ha
  have g:b<ss.length:=by simpa using hb
  have m:∀j (hj:j<(ss.set k (s.put i v)).length) (hj':j<ss.length),(ss.set k (s.put i v))[j].st=ss[j].st:=by
   intro j hj hj';rw[List.getElem_set];split
   ·rename_i e;subst e;have:ss[k]=s:=(cW.1 hs).2;rw[this];rfl
   ·rfl
  rw[m a ha d,m b hb g];exact k6.1 h.tj a b d g hab
theorem Dz {k i:Nat}{s:cF}(hs:ss[k]?=some s)(v:Bool):(ss.set k (s.put i v)).map (·.st)=ss.map (·.st):=by
 apply zp;intro j;simp only[za];by_cases hjk:j=k
 ·subst hjk;rw[zL (cW.1 hs).1,hs];rfl
 ·rw[zk (Ne.symm hjk)]
theorem Ac {s:cF}{i j:Nat}{v:Bool}(hi:i<s.tk.length):(s.put i v).is j=if j=i then v else s.is j:=by
 unfold cF.is cF.put;simp only[zP];by_cases hj:j=i
 ·subst hj;rw[zL hi,zC rfl];rfl
 ·rw[zk (Ne.symm hj),zB hj]
theorem F2 (h:dF c ss){k i:Nat}{s:cF}(hs:ss[k]?=some s)(hi:i<c.n)(v:Bool){y:Int}:Tk c (ss.set k (s.put i v)) y↔(y=((at_ c s i:Nat):Int)/\v=true)\/(y≠((at_ c s i:Nat):Int)/\Tk c ss y):=by
 have b:=(cW.1 hs).1;have m:=h.tk s (zG hs);have g:=h.pos;rw[Vz (h.put hs v),Vz h];constructor
 ·rintro⟨l,t,j,ht,hj,rfl,hb⟩;by_cases hlk:l=k
  ·subst hlk;rw[zL b]at ht;cases ht;rw[Ac O]at hb;by_cases a:j=i
   ·subst a;rw[zC rfl]at hb;exact .inl ⟨rfl,hb⟩
   ·rw[zB a]at hb;refine .inr ⟨λe=>a ?_,l,s,j,hs,hj,rfl,hb⟩;have d:at_ c s j=at_ c s i:=by have:=Int.ofNat.inj e;exact this
    exact(V6 h hs hs hj hi (zD _) O O O).2.2
  ·rw[zk (Ne.symm hlk)]at ht;refine .inr ⟨λe=>hlk ?_,l,t,j,ht,hj,rfl,hb⟩;have d:at_ c t j=at_ c s i:=Int.ofNat.inj e;exact(V6 h ht hs hj hi (zD _) O O O).1
 ·rintro(⟨rfl,rfl⟩|⟨hne,l,t,j,ht,hj,rfl,hb⟩)
  ·exact⟨k,s.put i true,i,zL b,hi,rfl,by rw[Ac O,zC rfl]⟩
  ·by_cases hlk:l=k
   ·subst hlk;rw[hs]at ht;cases ht;have a:j≠i:=λe=>hne (by rw[e]);exact⟨l,s.put i v,j,zL b,hj,rfl,by rw[Ac O,zB a];exact hb⟩
   ·exact⟨l,t,j,(zk (Ne.symm hlk)).trans ht,hj,rfl,hb⟩
theorem CN {p:Nat}:uU c ss p↔∃x∈ss.map (·.st),x<=p/\p<x+c.aF:=by
 constructor
 ·rintro⟨s,a,h⟩;exact⟨_,zE.2 ⟨s,a,rfl⟩,h⟩
 ·rintro⟨x,hx,h⟩;obtain⟨s,a,rfl⟩:=zE.1 hx;exact⟨s,a,h⟩
theorem Lr {ss':List cF}(e:ss'.map (·.st)=ss.map (·.st)){p:Nat}:uU c ss' p↔uU c ss p:=by rw[CN,CN,e]
theorem Mn (h:dF c ss){x:Nat}{ss':List cF}(ho:iW c ss=some (x,ss')):dF c ss'/\ss'.map (·.st)=ss.map (·.st)/\¬Tk c ss (x:Int)/\∀y,Tk c ss' y↔y=(x:Int)\/Tk c ss y:=by
 unfold iW at ho;split at ho
 ·rename_i k hk;obtain⟨_,s,g,m⟩:=QK hk;rw[g]at ho;simp only at ho;split at ho
  ·rename_i i hi;cases ho;obtain⟨r,w,u,p⟩:=Gj m;rw[hi]at w;cases w;have j:i<c.n:=by rw[←h.tk s (zG g)];exact u
   have d:¬Tk c ss ((at_ c s i:Nat):Int):=λa=>by
    have z:=(EV h (x:=((at_ c s i:Nat):Int)) (b:=false)).2 ⟨k,s,i,g,j,rfl,p⟩;unfold Tk at a;rw[z]at a;cases a
   refine⟨h.put g true,Dz g true,d,λy=>?_⟩;rw[F2 h g j];constructor
   ·rintro(⟨e,_⟩|⟨_,a⟩)
    ·exact .inl e
    ·exact .inr a
   ·rintro(e|a)
    ·exact .inl ⟨e,rfl⟩
    ·exact .inr ⟨λe=>d (e▸a),a⟩
  ·cases ho
 ·cases ho
theorem Hl:∀(m:Nat) {ss:List cF},dF c ss->dF c (QW c m ss).2/\(QW c m ss).2.map (·.st)=ss.map (·.st)/\(QW c m ss).1.length<=m/\(QW c m ss).1.Nodup/\(∀x∈(QW c m ss).1,¬Tk c ss (x:Int))/\∀y,Tk c (QW c m ss).2 y↔(∃x∈(QW c m ss).1,y=((x:Nat):Int))\/Tk c ss y
 | 0,ss,h=>⟨h,rfl,zD _,tx,by simp[QW],by simp[QW]⟩
 | m+1,ss,h=>by
  cases ho:iW c ss with
  | none=>
   have e:QW c (m+1) ss=([],ss):=by simp[QW,ho]
   rw[e];exact⟨h,rfl,by simp,tx,by simp,by simp⟩
  | some r=>
   obtain⟨x,g⟩:=r;rw[Hq ho];obtain⟨u,i,s,a⟩:=Mn h ho;obtain⟨p,j,B,d,b,A⟩:=Hl m u;refine⟨p,j.trans i,by simp;omega,zt.2 ⟨λw=>b x w ((a _).2 (.inl rfl)),d⟩,?_,λy=>?_⟩
   ·intro y hy;rcases zW.1 hy with rfl|hy
    ·exact s
    ·exact λz=>b y hy ((a _).2 (.inr z))
   ·rw[A,a];simp only[zW,exists_eq_or_imp];constructor
    ·rintro(h|h|h)
     ·exact .inl (.inr h)
     ·exact .inl (.inl h)
     ·exact .inr h
    ·rintro((h|h)|h)
     ·exact .inr (.inl h)
     ·exact .inl h
     ·exact .inr (.inr h)
theorem E4:∀(xs:List Int) {ss:List cF},dF c ss->kh c ss xs->dF c (xs.foldl (fF c) ss)/\(xs.foldl (fF c) ss).map (·.st)=ss.map (·.st)/\∀y,Tk c (xs.foldl (fF c) ss) y↔Tk c ss y/\y∉xs
 | [],ss,h,_=>⟨h,rfl,by simp⟩
 | x::xs,ss,h,hA=>by
  have hx:=hA.1 x aA;obtain⟨k,s,i,u,d,j,_⟩:=Gq hx;obtain⟨b,a⟩:=(Ut h.pos).1 j;rw[h.tk s (zG d)]at a;have e:=xC u d j;have w:=h.put d false (i:=i);have g:=hA.next h.pos;obtain⟨p,m,r⟩:=E4 xs (ss:=fF c ss x) (by rw[e];exact w) g;rw[qA];refine⟨p,m.trans (by rw[e];exact Dz d false),λy=>?_⟩;rw[r,e,F2 h d a,←b];simp only[zd,and_false,false_or,zW,not_or];constructor
  ·rintro⟨⟨b,a⟩,h3⟩;exact⟨a,b,h3⟩
  ·rintro⟨a,b,h3⟩;exact⟨⟨b,a⟩,h3⟩
theorem Fe {s:cF}(h0:s.many=0)(i:Nat):s.is i=false:=by
 unfold cF.many at h0;rw[xW]at h0;unfold cF.is;rw[zP];cases hi:s.tk[i]? with
 | none=>rfl
 | some b=>
  cases b
  ·rfl
  ·exact absurd (zG hi) h0
theorem dF.cG (h:dF c ss):dF c (Go.Ar.cG ss):=⟨h.ok,λs a=>h.tk s (zI.1 a).1,h.tj.filter _⟩
theorem Ep (h:dF c ss){y:Int}:Tk c (cG ss) y↔Tk c ss y:=by
 rw[Vz h.cG,Vz h];constructor
 ·rintro⟨k,s,i,hs,hi,rfl,hb⟩;obtain⟨l,a⟩:=zQ (zI.1 (zG hs)).1;exact⟨l,s,i,a,hi,rfl,hb⟩
 ·rintro⟨k,s,i,hs,hi,rfl,hb⟩;have:s∈cG ss:=zI.2 ⟨zG hs,by
   have:s.many≠0:=λb=>by rw[Fe b i]at hb;cases hb
   simpa using this⟩
  obtain⟨l,a⟩:=zQ this;exact⟨l,s,i,a,hi,rfl,hb⟩
theorem BZ {x:Nat}:x∈Qf ss↔∃s∈ss,s.many=0/\s.st=x:=by
 unfold Qf;simp only[zE,zI,zT,and_assoc]
theorem Dh (h:dF c ss){p:Nat}:uU c (cG ss) p↔uU c ss p/\¬∃x∈Qf ss,x<=p/\p<x+c.aF:=by
 constructor
 ·rintro⟨s,hs,h1,h2⟩;have b:=zI.1 hs;refine⟨⟨s,b.1,h1,h2⟩,?_⟩;rintro⟨x,hx,h3,h4⟩;obtain⟨t,m,a,rfl⟩:=BZ.1 hx;obtain⟨i,g⟩:=zQ b.1;obtain⟨j,d⟩:=zQ m;have e:=h.vq g d h1 h2 h3 h4;subst e;rw[g]at d;cases d;simp[a]at b
 ·rintro⟨⟨s,hs,h1,h2⟩,hn⟩;refine⟨s,zI.2 ⟨hs,?_⟩,h1,h2⟩;have:s.many≠0:=λa=>hn ⟨s.st,BZ.2 ⟨s,hs,a,rfl⟩,h1,h2⟩;simpa using this
theorem Me (h:dF c ss):(Qf ss).Pairwise λa b=>a+c.aF<=b:=by
 unfold Qf;rw[p8];exact h.tj.filter _
theorem Vk {st:Nat}{t:cF}:t∈ie c ss st↔t=⟨st,List.replicate c.n false⟩\/t∈ss:=by
 unfold ie;rw[zK,zW];have:t∈ss↔t∈ss.takeWhile (λs=>decide (s.st<st))\/t∈ss.dropWhile (λs=>decide (s.st<st)):=by
  rw[←zK,List.takeWhile_append_dropWhile]
 rw[this];constructor
 ·rintro(h|h|h)
  ·exact .inr (.inl h)
  ·exact .inl h
  ·exact .inr (.inr h)
 ·rintro(h|h|h)
  ·exact .inr (.inl h)
  ·exact .inl h
  ·exact .inr (.inr h)
theorem CF (h:dF c ss){st:Nat}(hd:∀s∈ss,s.st+c.aF<=st\/st+c.aF<=s.st):dF c (ie c ss st):=by
 refine⟨h.ok,λs m=>?_,?_⟩
 ·rcases Vk.1 m with rfl|m
  ·simp
  ·exact h.tk s m
 ·have g:=Hr h.py st;have u:=h.pg;rw[vn];refine pD.2 ⟨h.tj.sublist (Bf _ _),r9.2 ⟨λb e=>?_,h.tj.sublist (yX _ _)⟩,λa r b e=>?_⟩
  ·obtain⟨i,d⟩:=zQ e;rw[kP]at d;have:=g.2 _ _ d;rcases hd b (sq e)with h1|h1
   ·omega
   ·exact h1
  ·obtain⟨i,d⟩:=zQ r;rw[zj]at d;split at d
   ·rename_i hlt;rcases zW.1 e with rfl|e
    ·have:=(g.2 _ _ d).2 hlt;rcases hd a (zG d)with h1|h1
     ·exact h1
     ·omega
    ·obtain⟨j,p⟩:=zQ e;rw[kP]at p;exact h.tC d p O
   ·cases d
theorem FM (h:dF c ss){st:Nat}(hd:∀s∈ss,s.st+c.aF<=st\/st+c.aF<=s.st){y:Int}:Tk c (ie c ss st) y↔Tk c ss y:=by
 rw[Vz (CF h hd),Vz h];constructor
 ·rintro⟨k,s,i,hs,hi,rfl,hb⟩;rcases Vk.1 (zG hs)with rfl|hm
  ·have:(⟨st,List.replicate c.n false⟩:cF).is i=false:=Fe (by simp[cF.many,yI]) i;rw[this]at hb;cases hb
  ·obtain⟨l,a⟩:=zQ hm;exact⟨l,s,i,a,hi,rfl,hb⟩
 ·rintro⟨k,s,i,hs,hi,rfl,hb⟩;obtain⟨l,a⟩:=zQ (Vk.2 (.inr (zG hs)):s∈ie c ss st);exact⟨l,s,i,a,hi,rfl,hb⟩
theorem RP {st:Nat}(hd:∀s∈ss,s.st+c.aF<=st\/st+c.aF<=s.st):Gb c ss st=0:=by
 unfold Gb;rw[zB];simp only[kf,zU,not_exists,not_and];intro s hs hlt;rcases hd s hs with h|h<;>omega
end Go.Ar
namespace Go.Ar
open Go.Bu (Zb QB Y8 pT Vb dC take Ke Kx Bounded)
def gf (st:List Nat)(p:Nat):Nat:=st.getD p 0
def AR.f (A:AR)(p:Nat):Nat:=gf A.st p
def ma (rs:List (Nat×Nat))(p:Nat):Prop:=∃r∈rs,r.1<=p/\p<r.1+r.2
theorem PN {st:List Nat}{p:Nat}(h:gf st p≠0):p<st.length:=by
 apply Classical.byContradiction;intro hn;exact h (by unfold gf;rw[zP,zV O];rfl)
theorem ud {st:List Nat}{a b v p:Nat}(hb:b<=st.length):gf (gg st a b v) p=if a<=p/\p<b then v else gf st p:=by
 unfold gf;rw[zP,zP,U1];by_cases hp:p<st.length
 ·rw[cT hp];simp only[zX,pF]
 ·rw[zV O,zB O];rfl
theorem Uh {n a m:Nat}:Zb n (a:Int) (m:Int)=true↔1<=m/\a+m<=n:=by
 simp only[Zb,zF,zU];omega
theorem I8 {st:List Nat}{a m:Nat}{fr:List Nat}(hl:a+m<=st.length):uv st a m fr=true↔∀p,a<=p->p<a+m->gf st p∈fr:=by
 unfold uv;rw[j4];constructor
 ·intro h p h1 h2;have d:p<st.length:=by omega
  have:st[p]∈(st.drop a).take m:=by
   refine zG (i:=p-a) ?_;rw[zj,zC O,kP,show a+(p-a)=p by omega,cT d]
  have:=h _ this;unfold gf;rw[zP,cT d];simpa using this
 ·intro h x hx;obtain⟨i,b⟩:=zQ hx;rw[zj]at b;split at b
  ·rename_i hlt;rw[kP]at b;have:=h (a+i) O O;unfold gf at this;rw[zP,b]at this;simpa using this
  ·cases b
theorem DA {st:List Nat}{a m v:Nat}{fr:List Nat}(h1:1<=m)(hl:a+m<=st.length)(h:∀p,a<=p->p<a+m->gf st p∈fr):Ua st (a:Int) (m:Int) v fr=gg st a (a+m) v:=by
 unfold Ua oF;rw[zC (Uh.2 ⟨h1,hl⟩),dE,dE,(I8 hl).2 h];rfl
structure PG (A:AR):Prop where
 len:A.st.length=A.n
 n1:32<=A.n
 n2:A.n<=1024
 n16:A.n%16=0
 le:∀p,A.f p<=3
 us:∀p,A.f p=1↔A.ow p≠0
 fr:∀p,A.S p=true↔2<=A.f p
 hp:∀p,A.f p=0↔A.f (p/16*16)=0
theorem PG.lt {A:AR}(h:PG A){p:Nat}(hp:A.f p≠0):p<A.n:=h.len▸PN hp
theorem PG.jq {A:AR}(h:PG A):Bounded A.S A.n:=λp a=>h.lt (by have:=(h.fr p).1 a;omega)
theorem PG.kE {A:AR}(h:PG A){p q:Nat}(e:p/16=q/16):A.f p=0↔A.f q=0:=by rw[h.hp p,h.hp q,e]
theorem PG.same {A B:AR}(h:PG A)(e1:B.n=A.n)(e2:B.st=A.st)(e3:B.S=A.S)(e4:B.ow=A.ow):PG B:=by
 have a:∀p,B.f p=A.f p:=λp=>by unfold AR.f;rw[e2]
 exact⟨by rw[e2,e1];exact h.len,by rw[e1];exact h.n1,by rw[e1];exact h.n2,by rw[e1];exact h.n16,λp=>by rw[a];exact h.le p,λp=>by rw[a,e4];exact h.us p,λp=>by rw[a,e3];exact h.fr p,λp=>by rw[a,a];exact h.hp p⟩
theorem Et {ow:Nat->Nat}{a m no:Nat}(h1:1<=m)(h2:a+m<=1024)(p:Nat):jC ow a m no p=if a<=p/\p<a+m then no else ow p:=by
 unfold jC;rw[zC (Uh.2 ⟨h1,h2⟩)]
theorem Dt {n:Nat}{S:Nat->Bool}{a m:Nat}(h1:1<=m)(h2:a+m<=n)(h:∀p,a<=p->p<a+m->S p=false):QB n S (a:Int) (m:Int)=dC S a (a+m):=by
 unfold QB;rw[Uh.2 ⟨h1,h2⟩,dE,dE,Vb.2 h];rfl
structure Out (A B:AR) (a b:Nat):Prop where
 n:B.n=A.n
 len:B.st.length=A.st.length
 f:∀p,¬(a<=p/\p<b)->B.f p=A.f p
 ow:∀p,¬(a<=p/\p<b)->B.ow p=A.ow p
 S:∀p,¬(a<=p/\p<b)->B.S p=A.S p
theorem Out.pg {A B:AR}{a b v:Nat}(o:Out A B a b)(h:PG A)(hv:v<=3)(hf:∀p,a<=p->p<b->B.f p=v)(hw:∀p,a<=p->p<b->(v=1↔B.ow p≠0))(hS:∀p,a<=p->p<b->(B.S p=true↔2<=v))
 (hz:∀p,B.f p=0↔B.f (p/16*16)=0):PG B:=by
 refine⟨by rw[o.len,o.n];exact h.len,by rw[o.n];exact h.n1,by rw[o.n];exact h.n2,by rw[o.n];exact h.n16,λp=>?_,λp=>?_,λp=>?_,hz⟩
 ·by_cases hp:a<=p/\p<b
  ·rw[hf p hp.1 hp.2];exact hv
  ·rw[o.f p hp];exact h.le p
 ·by_cases hp:a<=p/\p<b
  ·rw[hf p hp.1 hp.2];exact hw p hp.1 hp.2
  ·rw[o.f p hp,o.ow p hp];exact h.us p
 ·by_cases hp:a<=p/\p<b
  ·rw[hf p hp.1 hp.2];exact hS p hp.1 hp.2
  ·rw[o.f p hp,o.S p hp];exact h.fr p
theorem Out.zero {A B:AR}{a b v:Nat}(o:Out A B a b)(h:PG A)(hf:∀p,a<=p->p<b->B.f p=v)(hv:v≠0)(hA:∀p,a<=p->p<b->A.f p≠0):∀p,B.f p=0↔A.f p=0:=by
 intro p;by_cases hp:a<=p/\p<b
 ·rw[hf p hp.1 hp.2];exact⟨λe=>(hv e).elim,λe=>(hA p hp.1 hp.2 e).elim⟩
 ·rw[o.f p hp]
theorem FN {A B:AR}(h:PG A)(e:∀p,B.f p=0↔A.f p=0):∀p,B.f p=0↔B.f (p/16*16)=0:=λp=>by rw[e,e];exact h.hp p
theorem DD {A:AR}(h:PG A){a m:Nat}(h1:1<=m)(hu:∀p,a<=p->p<a+m->A.f p=1):Out A (VF A (a,m)) a (a+m)/\(∀p,a<=p->p<a+m->(VF A (a,m)).f p=2/\(VF A (a,m)).ow p=0)/\PG (VF A (a,m))/\∀p,(VF A (a,m)).f p=0↔A.f p=0:=by
 have g:a+m<=A.n:=by have:=h.lt (p:=a+m-1) (by rw[hu _ O O];omega);omega
 have w:=h.n2;have e1:(VF A (a,m)).st=gg A.st a (a+m) 2:=DA h1 (by rw[h.len];exact g) λp b d=>by
  have:=hu p b d;unfold AR.f at this;rw[this];simp
 have e2:(VF A (a,m)).S=dC A.S a (a+m):=Dt h1 g λp b d=>by
  apply nB.2;intro hS;have:=(h.fr p).1 hS;have:=hu p b d;omega
 have s:∀p,(VF A (a,m)).ow p=if a<=p/\p<a+m then 0 else A.ow p:=λp=>Et h1 O p
 have r:∀p,(VF A (a,m)).f p=if a<=p/\p<a+m then 2 else A.f p:=λp=>by unfold AR.f;rw[e1,ud (by rw[h.len];exact g)]
 have o:Out A (VF A (a,m)) a (a+m):=⟨rfl,by rw[e1,KB],λp e=>by rw[r,zB e],λp e=>by rw[s,zB e],λp e=>by
  rw[e2];unfold dC;have:(decide (a<=p)&&decide (p<a+m))=false:=by simp;omega
  rw[this,Bool.or_false]⟩
 have i:∀p,a<=p->p<a+m->(VF A (a,m)).f p=2:=λp b d=>by rw[r,zC ⟨b,d⟩]
 have u:∀p,a<=p->p<a+m->(VF A (a,m)).ow p=0:=λp b d=>by rw[s,zC ⟨b,d⟩]
 have j:=o.zero h i O λp b d=>by rw[hu p b d];omega
 refine⟨o,λp b d=>⟨i p b d,u p b d⟩,o.pg h O i (λp b d=>by rw[u p b d];simp) (λp b d=>?_) (FN h j),j⟩;rw[e2,Ke];exact⟨λ_=>zD _,λ_=>.inr ⟨b,d⟩⟩
structure rR (A B:AR) (rs:List (Nat×Nat)):Prop where
 pg:PG B
 n:B.n=A.n
 tb:B.tb=A.tb
 room:B.room=A.room
 cM:B.cM=A.cM
 cE:B.cE=A.cE
 runs:B.runs=A.runs
 i:∀p,ma rs p->B.f p=2/\B.ow p=0
 o:∀p,¬ma rs p->B.f p=A.f p/\B.ow p=A.ow p
 z:∀p,B.f p=0↔A.f p=0
theorem EP:∀(rs:List (Nat×Nat)) {A:AR},PG A->(∀r∈rs,1<=r.2)->(∀r∈rs,∀p,r.1<=p->p<r.1+r.2->A.f p=1)->rs.Pairwise (λa b=>a.1+a.2<=b.1\/b.1+b.2<=a.1)->rR A (VZ A rs) rs
 | [],A,h,_,_,_=>⟨h,rfl,rfl,rfl,rfl,rfl,rfl,λp ⟨r,hr,_⟩=>by simp at hr,λp _=>⟨rfl,rfl⟩,λp=>Iff.rfl⟩
 | (a,m)::rs,A,h,hp,hu,hd=>by
  have hd':=r9.1 hd;obtain⟨o,B,x,C⟩:=DD h (hp _ (oT ..)) (hu _ (oT ..));have d:=EP rs x (λr hr=>hp r (nA _ hr)) (λr hr p s u=>by
   have:=hd'.1 r hr;simp only at this;rw[o.f p O];exact hu r (nA _ hr) p s u) hd'.2
  have e:VZ A ((a,m)::rs)=VZ (VF A (a,m)) rs:=rfl;rw[e];refine⟨d.pg,d.n,d.tb,d.room,d.cM,d.cE,d.runs,λp g=>?_,λp g=>?_,λp=>(d.z p).trans (C p)⟩
  ·by_cases j:ma rs p
   ·exact d.i p j
   ·have:=d.o p j;obtain⟨r,hr,s,u⟩:=g;rcases zW.1 hr with rfl|hr
    ·rw[this.1,this.2];exact B p s u
    ·exact(j ⟨r,hr,s,u⟩).elim
  ·have j:¬ma rs p:=λ⟨r,hr,w⟩=>g ⟨r,nA _ hr,w⟩;have y:¬(a<=p/\p<a+m):=λw=>g ⟨(a,m),oT ..,w⟩;have:=d.o p j;exact⟨this.1.trans (o.f p y),this.2.trans (o.ow p y)⟩
theorem AT {A:AR}(h:PG A){a m no:Nat}(h1:1<=m)(hn:no≠0)(hS:∀p,a<=p->p<a+m->A.S p=true):Out A (dQ A a m no) a (a+m)/\(∀p,a<=p->p<a+m->(dQ A a m no).f p=1/\(dQ A a m no).ow p=no)/\PG (dQ A a m no)/\∀p,(dQ A a m no).f p=0↔A.f p=0:=by
 have g:∀p,a<=p->p<a+m->2<=A.f p:=λp b d=>(h.fr p).1 (hS p b d);have r:a+m<=A.n:=by have:=h.lt (p:=a+m-1) (by have:=g (a+m-1) O O;omega);omega
 have y:=h.n2;have e1:(dQ A a m no).st=gg A.st a (a+m) 1:=DA h1 (by rw[h.len];exact r) λp b d=>by
  have x:=g p b d;have z:=h.le p;unfold AR.f at x z;have:gf A.st p=2\/gf A.st p=3:=by omega
  simpa using this
 have u:∀p,(dQ A a m no).ow p=if a<=p/\p<a+m then no else A.ow p:=λp=>Et h1 O p
 have s:∀p,(dQ A a m no).f p=if a<=p/\p<a+m then 1 else A.f p:=λp=>by unfold AR.f;rw[e1,ud (by rw[h.len];exact r)]
 have o:Out A (dQ A a m no) a (a+m):=⟨rfl,by rw[e1,KB],λp e=>by rw[s,zB e],λp e=>by rw[u,zB e],λp e=>by
  show take A.S a (a+m) p=A.S p;unfold take;have:(decide (a<=p)&&decide (p<a+m))=false:=by simp;omega
  rw[this];simp⟩
 have i:∀p,a<=p->p<a+m->(dQ A a m no).f p=1:=λp b d=>by rw[s,zC ⟨b,d⟩]
 have w:∀p,a<=p->p<a+m->(dQ A a m no).ow p=no:=λp b d=>by rw[u,zC ⟨b,d⟩]
 have j:=o.zero h i O λp b d=>by have:=g p b d;omega
 refine⟨o,λp b d=>⟨i p b d,w p b d⟩,o.pg h O i (λp b d=>by rw[w p b d];simp[hn]) (λp b d=>?_) (FN h j),j⟩;show take A.S a (a+m) p=true↔_;rw[Kx];constructor
 ·rintro⟨_,hx⟩;exact(hx ⟨b,d⟩).elim
 ·intro hx;omega
theorem Dc:∀(m:Nat) {st:List Nat} {a:Nat},(a+m)*16<=st.length->(∀p,a*16<=p->p<(a+m)*16->gf st p=0)->(UD st a m).length=st.length/\∀p,gf (UD st a m) p=if a*16<=p/\p<(a+m)*16 then 3 else gf st p
 | 0,st,a,hl,hz=>⟨rfl,λp=>by rw[zB O];rfl⟩
 | m+1,st,a,hl,hz=>by
  obtain⟨i1,i2⟩:=Dc m (st:=st) (a:=a) O λp d g=>hz p d O;rw[CE];have b:gf (UD st a m) (16*(a+m))=0:=by rw[i2,zB O];exact hz _ O O
  have ok:kz (UD st a m) ((a+m:Nat):Int)=0:=by
   unfold kz;rw[CZ (by rw[i1];omega),zC rfl,dE];unfold gf at b;rw[zC b]
  have e:iS (UD st a m) ((a+m:Nat):Int)=gg (UD st a m) (16*(a+m)) (16*(a+m)+16) 3:=by
   unfold iS;rw[zC ok,dE]
  rw[e];refine⟨by rw[KB,i1],λp=>?_⟩;rw[ud (by rw[i1];omega),i2];by_cases h1:16*(a+m)<=p/\p<16*(a+m)+16
  ·rw[zC h1,zC O]
  ·rw[zB h1];by_cases h2:a*16<=p/\p<(a+m)*16
   ·rw[zC h2,zC O]
   ·rw[zB h2,zB O]
theorem Cb {sp:Sp}{s m:Nat}(h:eZ sp (s:Int) (m:Int)=0):1<=m/\s+m<=sp.st.length/\∀p,s<=p->p<s+m->gf sp.st p=0:=by
 unfold eZ at h;split at h
 ·rename_i hr;obtain⟨e,b⟩:=Uh.1 hr;rw[dE,dE]at h;split at h
  ·cases h
  ·rename_i hn;refine⟨e,b,λp g j=>?_⟩;have a:p<sp.st.length:=by omega
   have d:sp.st[p]∈(sp.st.drop s).take m:=by
    refine zG (i:=p-s) ?_;rw[zj,zC O,kP,show s+(p-s)=p by omega,cT a]
   simp only[kf,not_exists,not_and]at hn;have:=hn _ d;unfold gf;rw[zP,cT a];simpa using this
 ·cases h
structure Grown (A B:AR) (sp sp':Sp) (s size:Nat):Prop where
 pg:PG B
 n:B.n=A.n
 tb:B.tb=A.tb
 room:B.room=A.room
 cM:B.cM=A.cM
 cE:B.cE=A.cE
 runs:B.runs=A.runs
 ow:B.ow=A.ow
 S9:s%16=0
 s1:16<=s
 sl:s+size<=A.n
 un:∀p,s<=p->p<s+size->gf sp.st p=0
 i:∀p,s<=p->p<s+size->B.f p=3/\gf sp'.st p=1
 o:∀p,¬(s<=p/\p<s+size)->B.f p=A.f p/\gf sp'.st p=gf sp.st p
 w:∀x,¬(s*32<=x/\x<(s+size)*32)->sp'.wd x=sp.wd x
 l:sp'.st.length=sp.st.length
 pk:sp'.pk=sp.pk
theorem UF {sp:Sp}{size s:Nat}(h1:1<=size)(h:cY sp size=some s):eZ sp (s:Int) (size:Int)=0/\s≠0/\(∃j,s=j*size)/\∀j,j*size<s->1<=j->eZ sp ((j*size:Nat):Int) (size:Int)≠0:=by
 unfold cY at h;obtain⟨r,us,vs,u,y⟩:=List.find?_eq_some_iff_append.1 h;simp only[zF,bne_iff_ne,ne_eq,zT]at r;have e:s∈(List.range (sp.st.length/size)).map (· * size):=by rw[u];simp
 obtain⟨j,A,rfl⟩:=zE.1 e;rw[zg]at A;refine⟨r.2,r.1,⟨j,rfl⟩,λi w x=>?_⟩;have z:i<j:=Nat.lt_of_mul_lt_mul_right w;have:i*size∈us:=by
  have g:i*size∈(List.range (sp.st.length/size)).map (· * size):=zE.2 ⟨i,zg.2 O,rfl⟩;have d:((List.range (sp.st.length/size)).map (· * size)).Pairwise (· < ·):=by
   rw[p8];exact List.pairwise_lt_range.imp λ{a b} p=>Nat.mul_lt_mul_of_pos_right p O
  rw[u]at g d;rcases zK.1 g with h|h
  ·exact h
  ·rcases zW.1 h with h|h
   ·have:=vL O h;omega
   ·have:=(r9.1 (pD.1 d).2.1).1 _ h;omega
 have:=y _ this;have m:i*size≠0:=by
  have:=Nat.mul_pos (show 0<i by omega) (show 0<size by omega);omega
 simpa[m]using this
theorem Eo {sp:Sp}{s m:Nat}(h:eZ sp (s:Int) (m:Int)=0):(fS sp (s:Int) (m:Int)).st.length=sp.st.length/\(∀p,gf (fS sp (s:Int) (m:Int)).st p=if s<=p/\p<s+m then 1 else gf sp.st p)/\(∀x,¬(s*32<=x/\x<(s+m)*32)->(fS sp (s:Int) (m:Int)).wd x=sp.wd x)/\(fS sp (s:Int) (m:Int)).pk=sp.pk:=by
 obtain⟨d,a,_⟩:=Cb h;unfold fS;rw[zC h,dE,dE];refine⟨by simp[Sp.set,KB],λp=>ud a,λx b=>?_,rfl⟩;show(if s*32<=x/\x<(s+m)*32 then 0 else sp.wd x)=_
 rw[zB b]
theorem JK {A:AR}{sp:Sp}(h:PG A)(hl:sp.st.length=A.n)(hz:∀p,gf sp.st p=0->A.f p=0){size:Nat}(hs:size=16\/size=32\/size=64){B:AR}{sp':Sp}(hg:UE A sp size=some (B,sp')) :
 ∃s,cY sp size=some s/\Grown A B sp sp' s size:=by
 unfold UE at hg;split at hg
 ·cases hg
 ·rename_i s hgs;cases hg;obtain⟨y,D,⟨j,J⟩,_⟩:=UF O hgs;obtain⟨F,C,z⟩:=Cb y;have m:s%16=0:=by rcases hs with rfl|rfl|rfl<;>omega
  have w:size%16=0:=by rcases hs with rfl|rfl|rfl<;>omega
  have e1:s/16*16=s:=by omega
  have e2:(s/16+size/16)*16=s+size:=by omega
  have e:∀p,s<=p->p<s+size->A.f p=0:=λp b d=>hz p (z p b d);obtain⟨H,i⟩:=Dc (size/16) (st:=A.st) (a:=s/16) (by rw[e2,h.len,←hl];exact C) (by rw[e1,e2];exact e);rw[e1,e2]at i;obtain⟨G,u,E,b4⟩:=Eo y;have g:s+size<=A.n:=by rw[←hl];exact C
  have x:QB A.n A.S (s:Int) (size:Int)=dC A.S s (s+size):=Dt F g λp b d=>by
   apply nB.2;intro hS;have:=(h.fr p).1 hS;have:=e p b d;omega
  refine⟨s,hgs,⟨?_,rfl,rfl,rfl,rfl,rfl,rfl,rfl,m,O,g,z,λp b d=>⟨?_,?_⟩,λp hp=>⟨?_,?_⟩,E,G,b4⟩⟩
  ·have o:Out A {A with st:=UD A.st (s/16) (size/16),S:=QB A.n A.S (s:Int) (size:Int)} s (s+size):=⟨rfl,H,λp hp=>by show gf _ p=_;rw[i,zB hp];rfl,λp hp=>rfl,λp hp=>by
    show QB A.n A.S (s:Int) (size:Int) p=A.S p;rw[x];unfold dC;have:(decide (s<=p)&&decide (p<s+size))=false:=by simp;omega
    rw[this,Bool.or_false]⟩
   have r:∀p,s<=p->p<s+size->AR.f {A with st:=UD A.st (s/16) (size/16),S:=QB A.n A.S (s:Int) (size:Int)} p=3:=λp b d=>by show gf _ p=3;rw[i,zC ⟨b,d⟩]
   refine o.pg h (zD _) r (λp b d=>?_) (λp b d=>?_) λp=>?_
   ·have D:=e p b d;have:=h.us p;constructor
    ·intro hx;omega
    ·intro hx;have:=this.2 hx;omega
   ·show QB A.n A.S (s:Int) (size:Int) p=true↔_;rw[x,Ke];exact⟨λ_=>O,λ_=>.inr ⟨b,d⟩⟩
   ·by_cases hp:s<=p/\p<s+size
    ·rw[r p hp.1 hp.2,r (p/16*16) O O]
    ·rw[o.f p hp,o.f (p/16*16) O];exact h.hp p
  ·show gf (UD A.st (s/16) (size/16)) p=3;rw[i,zC ⟨b,d⟩]
  ·rw[u,zC ⟨b,d⟩]
  ·show gf (UD A.st (s/16) (size/16)) p=A.f p;rw[i,zB hp];rfl
  ·rw[u,zB hp]
end Go.Ar
namespace Go.Ar
open Go.Bu (Zb QB Y8 pT Vb dC take Ke Kx Bounded full can Ys Us Zw QH ZG Kb QF Z4)
def Cl (A:AR)(k:Nat)(c:bZ)(ss:List cF):Prop:=A.tb[k]?=some c/\A.cE[k]?=some ss
def fL (A:AR)(k:Nat)(x:Int):Prop:=∃c ss,Cl A k c ss/\Tk c ss x
def gU (A:AR)(k:Nat)(x:Int):Prop:=∃t,A.cM[k]?=some t/\x∈t.bs.flatten
structure GA (A:AR):Prop where
 pg:PG A
 tb:A.tb.length<=40
 lc:A.cE.length=A.tb.length
 lt:A.cM.length=A.tb.length
 cE:∀k c ss,Cl A k c ss->dF c ss
 one:∀k c ss,Cl A k c ss->∀s∈ss,s.st/16=(s.st+c.aF-1)/16
 ow:∀k c ss,Cl A k c ss->∀p,A.ow p=k+1↔uU c ss p
 jX:∀p,A.ow p=41↔ma A.runs p
 sd:∀p,A.ow p=41\/A.ow p<=A.tb.length
 gJ:∀r∈A.runs,1<=r.2
 kj:A.runs.Pairwise λa b=>a.1+a.2<=b.1\/b.1+b.2<=a.1
 px:∀(k:Nat) (t:gF),A.cM[k]?=some t->t.bs.flatten.Nodup
 l6:∀(k:Nat) c ss (t:gF),Cl A k c ss->A.cM[k]?=some t->∀x∈t.bs.flatten,Tk c ss x
 oM:∀(k:Nat) (c:bZ) (t:gF),A.tb[k]?=some c->A.cM[k]?=some t->∀xs∈t.bs,xs.length=c.batch
structure Kp (A B:AR):Prop where
 n:B.n=A.n
 tb:B.tb=A.tb
 room:B.room=A.room
 z:∀p,B.f p=0↔A.f p=0
 t:∀p,B.f p=3->A.f p=3
theorem Kp.refl (A:AR):Kp A A:=⟨rfl,rfl,rfl,λ_=>Iff.rfl,λ_=>id⟩
theorem Kp.trans {A B C:AR}(h:Kp A B)(k:Kp B C):Kp A C:=⟨k.n.trans h.n,k.tb.trans h.tb,k.room.trans h.room,λp=>(k.z p).trans (h.z p),λp a=>h.t p (k.t p a)⟩
theorem Kp.aF {A B:AR}(e1:B.n=A.n)(e2:B.tb=A.tb)(e3:B.room=A.room)(e4:B.st=A.st):Kp A B:=⟨e1,e2,e3,λp=>by unfold AR.f;rw[e4],λp=>by unfold AR.f;rw[e4];exact id⟩
variable {A:AR}{k:Nat}{c:bZ}{ss:List cF}
theorem Cl.lt (h:Cl A k c ss):k<A.tb.length:=(cW.1 h.1).1
theorem Cl.eq {c':bZ}{ss':List cF}(h:Cl A k c ss)(h':Cl A k c' ss'):c=c'/\ss=ss':=⟨Option.some.inj (h.1.symm.trans h'.1),Option.some.inj (h.2.symm.trans h'.2)⟩
theorem GA.cl (h:GA A){k:Nat}(hk:k<A.tb.length):∃c ss t,Cl A k c ss/\A.cM[k]?=some t:=by
 have b:=h.lc;have a:=h.lt;exact⟨A.tb[k],A.cE[k],A.cM[k],⟨by simp,by simp⟩,by simp⟩
theorem GA.used (h:GA A)(hk:Cl A k c ss){s:cF}(hs:s∈ss){p:Nat}(h1:s.st<=p)(h2:p<s.st+c.aF):A.f p=1/\A.ow p=k+1:=by
 have:=(h.ow k c ss hk p).2 ⟨s,hs,h1,h2⟩;exact⟨(h.pg.us p).2 O,this⟩
theorem GA.jy (h:GA A){r:Nat×Nat}(hr:r∈A.runs){p:Nat}(h1:r.1<=p)(h2:p<r.1+r.2):A.f p=1/\A.ow p=41:=by
 have:=(h.jX p).2 ⟨r,hr,h1,h2⟩;exact⟨(h.pg.us p).2 O,this⟩
theorem GA.gK (h:GA A){r s:Nat×Nat}(hr:r∈A.runs)(hs:s∈A.runs){x:Nat}(h1:r.1<=x)(h2:x<r.1+r.2)(h3:s.1<=x)(h4:x<s.1+s.2):r=s:=by
 obtain⟨i,d⟩:=zQ hr;obtain⟨j,e⟩:=zQ hs;obtain⟨a,rfl⟩:=cW.1 d;obtain⟨b,rfl⟩:=cW.1 e;rcases pO i j with hl|hl|hl
 ·have:=k6.1 h.kj i j a b hl;omega
 ·subst hl;rfl
 ·have:=k6.1 h.kj j i b a hl;omega
theorem GA.fit (h:GA A){r:Nat×Nat}(hr:r∈A.runs):r.1+r.2<=A.n:=by
 have:=h.gJ r hr;have:=h.pg.lt (p:=r.1+r.2-1) (by rw[(h.jy hr (p:=r.1+r.2-1) O O).1];omega);omega
theorem GA.om (h:GA A):iK A:=by
 have w:=h.pg.n2;refine⟨λr b s p x g d i j=>h.gK b p g d i j,λx m a=>?_,λx m u a=>?_,λr b=>?_⟩
 ·obtain⟨r,b,g,d⟩:=(h.jX x).1 a;unfold rf;rw[Bo];exact⟨r,b,by simp[g,d]⟩
 ·rcases h.sd x with e|e
  ·exact(a e).elim
  ·exact e
 ·have:=h.fit b;omega
theorem Ui (hk:Cl A k c ss){ss':List cF}{j:Nat}{d:bZ}{tt:List cF}(h:Cl {A with cE:=A.cE.set k ss'} j d tt):(j=k/\d=c/\tt=ss')\/(j≠k/\Cl A j d tt):=by
 obtain⟨b,a⟩:=h;by_cases hjk:j=k
 ·subst hjk;have e:=(cW.1 hk.2).1;simp only[zL e]at a;exact .inl ⟨rfl,Option.some.inj (b.symm.trans hk.1),(Option.some.inj a).symm⟩
 ·simp only[zk (Ne.symm hjk)]at a;exact .inr ⟨hjk,b,a⟩
theorem UM (hk:Cl A k c ss)(ss':List cF):Cl {A with cE:=A.cE.set k ss'} k c ss':=⟨hk.1,zL (cW.1 hk.2).1⟩
theorem Oy {ss':List cF}{j:Nat}{d:bZ}{tt:List cF}(hjk:j≠k)(h:Cl A j d tt):Cl {A with cE:=A.cE.set k ss'} j d tt:=⟨h.1,(zk (Ne.symm hjk)).trans h.2⟩
theorem GA.kQ (h:GA A)(hk:Cl A k c ss){ss':List cF}(hC:dF c ss')(hst:ss'.map (·.st)=ss.map (·.st))(ht:∀t,A.cM[k]?=some t->∀x∈t.bs.flatten,Tk c ss' x):GA {A with cE:=A.cE.set k ss'}:=by
 refine⟨h.pg.same rfl rfl rfl rfl,h.tb,by simp[h.lc],h.lt,λj d b a=>?_,λj d b a s i=>?_,λj d b a p=>?_,h.jX,h.sd,h.gJ,h.kj,h.px,λj d b t a g=>?_,h.oM⟩
 ·rcases Ui hk a with⟨rfl,rfl,rfl⟩|⟨hne,a⟩
  ·exact hC
  ·exact h.cE j d b a
 ·rcases Ui hk a with⟨rfl,rfl,rfl⟩|⟨hne,a⟩
  ·have:s.st∈ss.map (·.st):=by rw[←hst];exact zE.2 ⟨s,i,rfl⟩
   obtain⟨t,ht,e⟩:=zE.1 this;rw[←e];exact h.one _ _ _ hk t ht
  ·exact h.one j d b a s i
 ·rcases Ui hk a with⟨rfl,rfl,rfl⟩|⟨hne,a⟩
  ·rw[Lr hst];exact h.ow _ _ _ hk p
  ·exact h.ow j d b a p
 ·rcases Ui hk a with⟨rfl,rfl,rfl⟩|⟨hne,a⟩
  ·exact ht t g
  ·exact h.l6 j d b t a g
theorem yw (hk:Cl A k c ss){ss':List cF}{j:Nat}{x:Int}:fL {A with cE:=A.cE.set k ss'} j x↔(j=k/\Tk c ss' x)\/(j≠k/\fL A j x):=by
 constructor
 ·rintro⟨d,tt,hj,hx⟩;rcases Ui hk hj with⟨rfl,rfl,rfl⟩|⟨hne,hj⟩
  ·exact .inl ⟨rfl,hx⟩
  ·exact .inr ⟨hne,d,tt,hj,hx⟩
 ·rintro(⟨rfl,hx⟩|⟨hne,d,tt,hj,hx⟩)
  ·exact⟨c,ss',UM hk ss',hx⟩
  ·exact⟨d,tt,Oy hne hj,hx⟩
theorem Vd (hk:Cl A k c ss){x:Int}:fL A k x↔Tk c ss x:=by
 constructor
 ·rintro⟨d,tt,hj,hx⟩;obtain⟨rfl,rfl⟩:=hk.eq hj;exact hx
 ·intro hx;exact⟨c,ss,hk,hx⟩
def swp (A:AR)(k:Nat)(c:bZ)(ss:List cF):AR:=VZ {A with cE:=A.cE.set k (cG ss)} ((Qf ss).map λs=>(s,c.aF))
theorem Al {p:Nat}:ma ((Qf ss).map λs=>(s,c.aF)) p↔∃x∈Qf ss,x<=p/\p<x+c.aF:=by
 unfold ma;simp only[zE];constructor
 ·rintro⟨_,⟨x,hx,rfl⟩,h⟩;exact⟨x,hx,h⟩
 ·rintro⟨x,hx,h⟩;exact⟨_,⟨x,hx,rfl⟩,h⟩
theorem GA.jJ (h:GA A)(hk:Cl A k c ss){x:Nat}(hx:x∈Qf ss){p:Nat}(h1:x<=p)(h2:p<x+c.aF):A.f p=1/\A.ow p=k+1:=by
 obtain⟨s,a,_,rfl⟩:=BZ.1 hx;exact h.used hk a h1 h2
theorem GA.qu (h:GA A)(hk:Cl A k c ss):rR {A with cE:=A.cE.set k (cG ss)} (swp A k c ss) ((Qf ss).map λs=>(s,c.aF)):=by
 have g:=h.cE k c ss hk;refine EP _ (h.pg.same rfl rfl rfl rfl) (λr e=>?_) (λr e p j m=>?_) ?_
 ·obtain⟨x,_,rfl⟩:=zE.1 e;exact g.pg
 ·obtain⟨x,i,rfl⟩:=zE.1 e;exact(h.jJ hk i j m).1
 ·rw[p8];exact(Me g).imp λ{a b} d=>.inl d
theorem GA.swp (h:GA A)(hk:Cl A k c ss):GA (Go.Ar.swp A k c ss):=by
 have b:=h.qu hk;have w:=h.cE k c ss hk;have B:=hk.lt;have C:=h.tb;have cl:∀{j d m},Cl (Go.Ar.swp A k c ss) j d m->(j=k/\d=c/\m=cG ss)\/(j≠k/\Cl A j d m):=λ{j d m} a=>Ui hk ⟨by rw[←b.tb];exact a.1,by rw[←b.cE];exact a.2⟩;have own:∀p,ma ((Qf ss).map λs=>(s,c.aF)) p->A.ow p=k+1:=λp g=>by
  obtain⟨x,u,z,E⟩:=Al.1 g;exact(h.jJ hk u z E).2
 have cM:(Go.Ar.swp A k c ss).cM=A.cM:=b.cM;have tb:(Go.Ar.swp A k c ss).tb=A.tb:=b.tb;have runs:(Go.Ar.swp A k c ss).runs=A.runs:=b.runs;refine⟨b.pg,by rw[tb];exact h.tb,by rw[b.cE,tb];simp[h.lc],by rw[cM,tb];exact h.lt,λj d m a=>?_,λj d m a s y=>?_,λj d m a p=>?_,λp=>?_,λp=>?_,by rw[runs];exact h.gJ,by rw[runs];exact h.kj,by rw[cM];exact h.px,λj d m t a r=>?_,by rw[cM,tb];exact h.oM⟩
 ·rcases cl a with⟨rfl,rfl,rfl⟩|⟨hne,a⟩
  ·exact w.cG
  ·exact h.cE j d m a
 ·rcases cl a with⟨rfl,rfl,rfl⟩|⟨hne,a⟩
  ·exact h.one _ _ _ hk s (zI.1 y).1
  ·exact h.one j d m a s y
 ·by_cases g:ma ((Qf ss).map λs=>(s,c.aF)) p
  ·rw[(b.i p g).2];have F:=own p g;rcases cl a with⟨rfl,rfl,rfl⟩|⟨hne,a⟩
   ·rw[Dh w];constructor
    ·intro e;omega
    ·rintro⟨_,hn⟩;exact(hn (Al.1 g)).elim
   ·rw[←h.ow j d m a p,F];omega
  ·rw[(b.o p g).2];rcases cl a with⟨rfl,rfl,rfl⟩|⟨hne,a⟩
   ·rw[Dh w];show A.ow p=_↔_;rw[h.ow _ _ _ hk p];exact⟨λu=>⟨u,λD=>g (Al.2 D)⟩,λu=>u.1⟩
   ·exact h.ow j d m a p
 ·rw[runs];by_cases g:ma ((Qf ss).map λs=>(s,c.aF)) p
  ·rw[(b.i p g).2,←h.jX,own p g];omega
  ·rw[(b.o p g).2];exact h.jX p
 ·rw[tb];by_cases g:ma ((Qf ss).map λs=>(s,c.aF)) p
  ·rw[(b.i p g).2];omega
  ·rw[(b.o p g).2];exact h.sd p
 ·rw[cM]at r;rcases cl a with⟨rfl,rfl,rfl⟩|⟨hne,a⟩
  ·intro x u;exact(Ep w).2 (h.l6 _ _ _ t hk r x u)
  ·exact h.l6 j d m t a r
theorem GA.BK (h:GA A)(hk:Cl A k c ss):Kp A (Go.Ar.swp A k c ss):=by
 have b:=h.qu hk;refine⟨b.n,b.tb,b.room,b.z,λp a=>?_⟩;by_cases hi:ma ((Qf ss).map λs=>(s,c.aF)) p
 ·rw[(b.i p hi).1]at a;omega
 ·rw[(b.o p hi).1]at a;exact a
theorem GA.A7 (h:GA A)(hk:Cl A k c ss){j:Nat}{x:Int}:fL (Go.Ar.swp A k c ss) j x↔fL A j x:=by
 have b:=h.qu hk;have a:=h.cE k c ss hk;have e:fL (Go.Ar.swp A k c ss) j x↔fL {A with cE:=A.cE.set k (cG ss)} j x:=by unfold fL Cl;rw[b.tb,b.cE]
 rw[e,yw hk,Ep a];constructor
 ·rintro(⟨rfl,hx⟩|⟨_,hx⟩)
  ·exact(Vd hk).2 hx
  ·exact hx
 ·intro hx;by_cases hjk:j=k
  ·subst hjk;exact .inl ⟨rfl,(Vd hk).1 hx⟩
  ·exact .inr ⟨hjk,hx⟩
theorem U6 {k:Int}:A.ck k=true↔∃j:Nat,k=j/\j<A.tb.length:=by
 unfold AR.ck;simp only[zF,zU];constructor
 ·intro h;exact⟨k.toNat,O,O⟩
 ·rintro⟨j,rfl,h⟩;omega
structure Ob (A B:AR):Prop where
 ga:GA B
 kp:Kp A B
 runs:B.runs=A.runs
theorem FP (h:GA A)(k m:Int):Ob A (Yt A k m)/\(Yt A k m).cM=A.cM/\(Ya A k m).Nodup/\(Ya A k m≠[]->∃j:Nat,k=j/\j<A.tb.length)/\(∀x∈Ya A k m,¬fL A k.toNat (x:Int)) ∧
 ∀j y,fL (Yt A k m) j y↔fL A j y\/(j=k.toNat/\∃x∈Ya A k m,y=((x:Nat):Int)):=by
 by_cases h0:Qt A k m=0
 ·have e:A.ck k=true:=by
   unfold Qt at h0;split at h0
   ·assumption
   ·cases h0
  obtain⟨j,rfl,u⟩:=U6.1 e;obtain⟨c,ss,t,b,D⟩:=h.cl u;have s:Vm A (j:Int) m=QW c m.toNat ss:=by unfold Vm;rw[dE,b.1,b.2]
  have g:Yt A (j:Int) m = {A with cE:=A.cE.set j (QW c m.toNat ss).2}:=by unfold Yt;rw[zC h0,s,dE]
  have p:Ya A (j:Int) m=(QW c m.toNat ss).1:=by unfold Ya;rw[zC h0,s]
  rw[g,p];obtain⟨s1,s2,C,w,z,r⟩:=Hl m.toNat (h.cE j c ss b);refine⟨⟨h.kQ b s1 s2 λB d x a=>(r x).2 (.inr (h.l6 j c ss B b d x a)),Kp.aF rfl rfl rfl rfl,rfl⟩,rfl,w,λ_=>⟨j,rfl,u⟩,λx a=>?_,λi y=>?_⟩
  ·rw[dE,Vd b];exact z x a
  ·rw[yw b,r,dE];by_cases hij:i=j
   ·subst hij;rw[Vd b];constructor
    ·rintro(⟨_,a|a⟩|⟨a,_⟩)
     ·exact .inr ⟨rfl,a⟩
     ·exact .inl a
     ·exact(a rfl).elim
    ·rintro(a|⟨_,a⟩)
     ·exact .inl ⟨rfl,.inr a⟩
     ·exact .inl ⟨rfl,.inl a⟩
   ·constructor
    ·rintro(⟨a,_⟩|⟨_,a⟩)
     ·exact(hij a).elim
     ·exact .inl a
    ·rintro(a|⟨a,_⟩)
     ·exact .inr ⟨hij,a⟩
     ·exact(hij a).elim
 ·have g:Yt A k m=A:=by unfold Yt;rw[zB h0]
  have p:Ya A k m=[]:=by unfold Ya;rw[zB h0]
  rw[g,p];exact⟨⟨h,Kp.refl A,rfl⟩,rfl,tx,by simp,by simp,by simp⟩
theorem Cv {xs:List Int}(h:kh c ss xs):iC c ss xs=0:=by
 unfold iC;have b:xs.any (λx=>(dV c ss x).isNone)=false:=by
  rw[mB];intro x hx;rw[h.1 x hx];simp
 have a:xs.any (λx=>dV c ss x==some false)=false:=by
  rw[mB];intro x hx;rw[h.1 x hx];simp
 rw[b,a,zJ h.2];rfl
theorem HD (h:GA A)(hk:Cl A k c ss)(xs:List Int):QL A (k:Int) xs=iC c ss xs:=by
 unfold QL;rw[U6.2 ⟨k,rfl,hk.lt⟩,zC rfl,dE,hk.1,hk.2]
theorem Bb (h:GA A){k:Int}{xs:List Int}(h0:QL A k xs=0):∃(j:Nat) (c:bZ) (ss:List cF),k=j/\Cl A j c ss/\kh c ss xs:=by
 have a:A.ck k=true:=by
  unfold QL at h0;split at h0
  ·assumption
  ·cases h0
 obtain⟨j,rfl,d⟩:=U6.1 a;obtain⟨c,ss,t,b,e⟩:=h.cl d;rw[HD h b]at h0;exact⟨j,c,ss,rfl,b,C6 h0⟩
theorem BB (h:GA A){k:Int}{xs:List Int}(hd:QL A k xs=0->∀x∈xs,¬gU A k.toNat x):Ob A (Zu A k xs)/\(Zu A k xs).cM=A.cM ∧
 (QL A k xs=0->∀j y,fL (Zu A k xs) j y↔fL A j y/\¬(j=k.toNat/\y∈xs))/\(QL A k xs≠0->Zu A k xs=A):=by
 by_cases h0:QL A k xs=0
 ·obtain⟨j,c,g,rfl,e,C⟩:=Bb h h0;obtain⟨w,D,u⟩:=E4 xs (h.cE j c g e) C;have p:=h.kQ e w D λt s x a=>(u x).2 ⟨h.l6 j c g t e s x a,λB=>hd h0 x B ⟨t,by rw[dE];exact s,a⟩⟩;have d:=UM e (xs.foldl (fF c) g);have r:Zu A (j:Int) xs=swp {A with cE:=A.cE.set j (xs.foldl (fF c) g)} j c (xs.foldl (fF c) g):=by
   unfold Zu swp;rw[zC h0,dE,e.1,e.2];simp only[nE]
  have b:=p.qu d;rw[r];refine⟨⟨p.swp d,(Kp.aF rfl rfl rfl rfl:Kp A {A with cE:=A.cE.set j (xs.foldl (fF c) g)}).trans (p.BK d),b.runs⟩,b.cM,λ_ i y=>?_,λz=>(z h0).elim⟩;rw[p.A7 d,yw e,u,dE];by_cases hij:i=j
  ·subst hij;rw[Vd e];constructor
   ·rintro(⟨_,a,hy⟩|⟨a,_⟩)
    ·exact⟨a,λm=>hy m.2⟩
    ·exact(a rfl).elim
   ·rintro⟨a,hy⟩;exact .inl ⟨rfl,a,λm=>hy ⟨rfl,m⟩⟩
  ·constructor
   ·rintro(⟨a,_⟩|⟨_,a⟩)
    ·exact(hij a).elim
    ·exact⟨a,λm=>hij m.1⟩
   ·rintro⟨a,_⟩;exact .inr ⟨hij,a⟩
 ·have r:Zu A k xs=A:=by unfold Zu;rw[zB h0]
  rw[r];exact⟨⟨h,Kp.refl A,rfl⟩,rfl,λa=>(h0 a).elim,λ_=>rfl⟩
theorem GA.jQ (h:GA A){k:Nat}{t':gF}(h1:t'.bs.flatten.Nodup)(h2:∀x∈t'.bs.flatten,fL A k x)(h3:∀c,A.tb[k]?=some c->∀xs∈t'.bs,xs.length=c.batch):GA {A with cM:=A.cM.set k t'}:=by
 have get:∀{j t},(A.cM.set k t')[j]?=some t->(j=k/\t=t')\/(j≠k/\A.cM[j]?=some t):=by
  intro j t a;by_cases hjk:j=k
  ·subst hjk;have g:j<A.cM.length:=by have:=(cW.1 a).1;simpa using this
   rw[zL g]at a;exact .inl ⟨rfl,(Option.some.inj a).symm⟩
  ·rw[zk (Ne.symm hjk)]at a;exact .inr ⟨hjk,a⟩
 refine⟨h.pg.same rfl rfl rfl rfl,h.tb,h.lc,by simp[h.lt],h.cE,h.one,h.ow,h.jX,h.sd,h.gJ,h.kj,λj t a=>?_,λj c e t b a x d=>?_,λj c t b a=>?_⟩
 ·rcases get a with⟨rfl,rfl⟩|⟨_,a⟩
  ·exact h1
  ·exact h.px j t a
 ·rcases get a with⟨rfl,rfl⟩|⟨_,a⟩
  ·exact(Vd b).1 (h2 x d)
  ·exact h.l6 j c e t b a x d
 ·rcases get a with⟨rfl,rfl⟩|⟨_,a⟩
  ·exact h3 c b
  ·exact h.oM j c t b a
theorem xK {t':gF}{j:Nat}{x:Int}(hk:k<A.cM.length):gU {A with cM:=A.cM.set k t'} j x↔(j=k/\x∈t'.bs.flatten)\/(j≠k/\gU A j x):=by
 by_cases hjk:j=k
 ·subst hjk;have a:(A.cM.set j t')[j]?=some t':=zL hk;constructor
  ·rintro⟨t,e,hx⟩;have e:(A.cM.set j t')[j]?=some t:=e;rw[a]at e;cases e;exact .inl ⟨rfl,hx⟩
  ·rintro(⟨_,hx⟩|⟨hx,_⟩)
   ·exact⟨_,a,hx⟩
   ·exact(hx rfl).elim
 ·have a:(A.cM.set k t')[j]?=A.cM[j]? := zk (Ne.symm hjk);constructor
  ·rintro⟨t,e,hx⟩;have e:(A.cM.set k t')[j]?=some t:=e;rw[a]at e;exact .inr ⟨hjk,t,e,hx⟩
  ·rintro(⟨hx,_⟩|⟨_,t,e,hx⟩)
   ·exact(hjk hx).elim
   ·exact⟨t,a.trans e,hx⟩
theorem Hz {t:gF}(ht:A.cM[k]?=some t){x:Int}:gU A k x↔x∈t.bs.flatten:=by
 constructor
 ·rintro⟨t',e,hx⟩;rw[ht]at e;cases e;exact hx
 ·intro hx;exact⟨t,ht,hx⟩
theorem Eh (h:GA A)(k:Int):Ob A (Zx A k)/\(∀j y,fL (Zx A k) j y↔fL A j y)/\(∀x∈Yp A k,gU A k.toNat x)/\(Yp A k).Nodup/\(Yp A k≠[]->∃j:Nat,k=j/\j<A.tb.length) ∧
 ∀j y,gU (Zx A k) j y↔gU A j y/\¬(j=k.toNat/\y∈Yp A k):=by
 by_cases h0:ZZ A k=0
 ·have p:A.ck k=true:=by
   unfold ZZ at h0;split at h0
   ·assumption
   ·cases h0
  obtain⟨j,rfl,C⟩:=U6.1 p;obtain⟨c,H,t,E,g⟩:=h.cl C;have hne:t.bs≠[]:=by
   intro e;unfold ZZ at h0;rw[p,zC rfl,dE,g]at h0;simp[e]at h0
  have u:Zx A (j:Int) = {A with cM:=A.cM.set j t.rem}:=by unfold Zx;rw[zC h0,dE,KP g]
  have D:Yp A (j:Int)=t.bs.getLast?.getD []:=by unfold Yp;rw[zC h0,dE,g]
  have B:t.bs=t.bs.dropLast++[t.bs.getLast hne]:=(List.dropLast_concat_getLast hne).symm;have G:Yp A (j:Int)=t.bs.getLast hne:=by rw[D,List.getLast?_eq_some_getLast hne];rfl
  have d:t.bs.flatten=t.bs.dropLast.flatten++t.bs.getLast hne:=by
   conv=>lhs;rw[B]
   simp
  have s:=h.px j t g;rw[d]at s;have b:=nJ.1 s;have m:t.rem.bs=t.bs.dropLast:=rfl;rw[u,G];refine⟨⟨h.jQ (by rw[m];exact b.1) (λx a=>(Vd E).2 (h.l6 j c H t E g x (by rw[d];exact ko _ a))) λF w J z=>h.oM j F t w g J ((List.dropLast_sublist _).subset z),Kp.aF rfl rfl rfl rfl,rfl⟩,λ_ _=>Iff.rfl,λx a=>?_,b.2.1,λ_=>⟨j,rfl,C⟩,λi y=>?_⟩
  ·rw[dE,Hz g,d];exact nI _ a
  ·rw[xK (by rw[h.lt];exact C),m,dE];by_cases hij:i=j
   ·subst hij;rw[Hz g,d,zK];constructor
    ·rintro(⟨_,a⟩|⟨a,_⟩)
     ·exact⟨.inl a,λr=>b.2.2 y a y r.2 rfl⟩
     ·exact(a rfl).elim
    ·rintro⟨a|a,r⟩
     ·exact .inl ⟨rfl,a⟩
     ·exact(r ⟨rfl,a⟩).elim
   ·constructor
    ·rintro(⟨a,_⟩|⟨_,a⟩)
     ·exact(hij a).elim
     ·exact⟨a,λr=>hij r.1⟩
    ·rintro⟨a,_⟩;exact .inr ⟨hij,a⟩
 ·have u:Zx A k=A:=by unfold Zx;rw[zB h0]
  have D:Yp A k=[]:=by unfold Yp;rw[zB h0]
  rw[u,D];exact⟨⟨h,Kp.refl A,rfl⟩,λ_ _=>Iff.rfl,by simp,tx,by simp,by simp⟩
theorem Sj (h:GA A)(k:Int){xs:List Int}(hn:xs.Nodup)(hd:∀x∈xs,¬gU A k.toNat x):Ob A (QV A k xs)/\(∀j y,fL (QV A k xs) j y↔fL A j y) ∧
 (K0 A k xs=true->(∃j:Nat,k=j/\j<A.tb.length)/\(∀x∈xs,fL A k.toNat x)/\∀j y,gU (QV A k xs) j y↔gU A j y\/(j=k.toNat/\y∈xs))/\(K0 A k xs=false->QV A k xs=A):=by
 by_cases h0:K0 A k xs=true
 ·have B:Ha A k xs=0:=by
   unfold K0 at h0;simp only[zF,zU]at h0;exact h0.1
  have w:A.ck k=true:=by
   unfold Ha at B;split at B
   ·assumption
   ·cases B
  obtain⟨j,rfl,E⟩:=U6.1 w;obtain⟨c,F,t,u,s⟩:=h.cl E;have g:=B;unfold Ha at g;rw[w,zC rfl,dE,u.1,u.2]at g;simp only at g;have p:xs.length=c.batch:=by
   apply Classical.byContradiction;intro d;rw[zB d]at g;cases g
  rw[zC p]at g;have z:∀x∈xs,fL A j x:=by
   intro x d;split at g
   ·rename_i C;rw[j4]at C;rw[Vd u];simpa[Tk]using C x d
   ·cases g
  have D:QV A (j:Int) xs = {A with cM:=A.cM.set j {t with bs:=t.bs++[xs]}}:=by unfold QV;rw[zC h0,dE,KP s]
  have r:(t.bs++[xs]).flatten=t.bs.flatten++xs:=by simp
  rw[D];refine⟨⟨h.jQ ?_ ?_ ?_,Kp.aF rfl rfl rfl rfl,rfl⟩,λ_ _=>Iff.rfl,λ_=>⟨⟨j,rfl,E⟩,by rw[dE];exact z,λi y=>?_⟩,λH=>by rw[H]at h0;cases h0⟩
  ·show(t.bs++[xs]).flatten.Nodup;rw[r,nJ];exact⟨h.px j t s,hn,λa C b G e=>hd b G (by subst e;rw[dE,Hz s];exact C)⟩
  ·intro x d;have d:x∈(t.bs++[xs]).flatten:=d;rw[r,zK]at d;rcases d with d|d
   ·exact(Vd u).2 (h.l6 j c F t u s x d)
   ·exact z x d
  ·intro c' hc' ys m;have m:ys∈t.bs++[xs]:=m;rcases zK.1 m with m|m
   ·exact h.oM j c' t hc' s ys m
   ·simp only[zN]at m;rw[u.1]at hc';cases hc';rw[m];exact p
  ·rw[xK (by rw[h.lt];exact E),dE];show(i=j/\y∈(t.bs++[xs]).flatten)\/_↔_;rw[r,zK];by_cases hij:i=j
   ·subst hij;rw[Hz s];constructor
    ·rintro(⟨_,d|d⟩|⟨d,_⟩)
     ·exact .inl d
     ·exact .inr ⟨rfl,d⟩
     ·exact(d rfl).elim
    ·rintro(d|⟨_,d⟩)
     ·exact .inl ⟨rfl,.inl d⟩
     ·exact .inl ⟨rfl,.inr d⟩
   ·constructor
    ·rintro(⟨d,_⟩|⟨_,d⟩)
     ·exact(hij d).elim
     ·exact .inl d
    ·rintro(d|⟨d,_⟩)
     ·exact .inr ⟨hij,d⟩
     ·exact(hij d).elim
 ·have D:QV A k xs=A:=by unfold QV;rw[zB h0]
  rw[D];exact⟨⟨h,Kp.refl A,rfl⟩,λ_ _=>Iff.rfl,λd=>(h0 d).elim,λ_=>rfl⟩
end Go.Ar
namespace Go.Ar
open Go.Bu (Zb QB Y8 pT Vb dC take Ke Kx Bounded full can Ys Us Zw QH ZG Kb QF Z4 VL UI lb)
variable {A:AR}{sp:Sp}{k:Nat}{c:bZ}{ss:List cF}
structure Ow (A:AR) (sp:Sp):Prop where
 l:sp.st.length=A.n
 own:∀p,A.f p≠0->gf sp.st p≠0
 cl:∀p,A.f p=3->gf sp.st p=1
 le:∀p,gf sp.st p<=2
structure St (A B:AR) (sp sp':Sp):Prop where
 ga:GA B
 ow:Ow B sp'
 n:B.n=A.n
 tb:B.tb=A.tb
 room:B.room=A.room
 same:∀p,A.f p=0->B.f p=0->gf sp'.st p=gf sp.st p
 gone:∀p,A.f p≠0->B.f p=0->gf sp'.st p=0
 new:∀p,A.f p=0->B.f p≠0->gf sp.st p=0/\16<=p
theorem St.refl (h:GA A)(hw:Ow A sp):St A A sp sp:=⟨h,hw,rfl,rfl,rfl,λ_ _ _=>rfl,λp b a=>(b a).elim,λp b a=>(a b).elim⟩
theorem Ow.len {B C:AR}{sp sp':Sp}(h:Ow B sp)(k:Ow C sp')(e:C.n=B.n):sp'.st.length=sp.st.length:=by rw[h.l,k.l,e]
theorem St.trans {B C:AR}{sp' sp'':Sp}(h:St A B sp sp')(k:St B C sp' sp''):St A C sp sp'':=by
 refine⟨k.ga,k.ow,k.n.trans h.n,k.tb.trans h.tb,k.room.trans h.room,λp b a=>?_,λp b a=>?_,λp b a=>?_⟩
 ·by_cases hB:B.f p=0
  ·rw[k.same p hB a,h.same p b hB]
  ·rw[k.gone p hB a,(h.new p b hB).1]
 ·by_cases hB:B.f p=0
  ·rw[k.same p hB a,h.gone p b hB]
  ·exact k.gone p hB a
 ·by_cases hB:B.f p=0
  ·have:=k.new p hB a;rw[h.same p b hB]at this;exact this
  ·exact h.new p b hB
theorem Ow.kp {B:AR}(hw:Ow A sp)(h:Kp A B):Ow B sp:=⟨hw.l.trans h.n.symm,λp a=>hw.own p λe=>a ((h.z p).2 e),λp a=>hw.cl p (h.t p a),hw.le⟩
theorem St.kp {B:AR}(hg:GA B)(hw:Ow A sp)(h:Kp A B):St A B sp sp:=
 ⟨hg,hw.kp h,h.n,h.tb,h.room,λ_ _ _=>rfl,λp b a=>(b ((h.z p).1 a)).elim,λp b a=>(a ((h.z p).2 b)).elim⟩
theorem Ob.st {B:AR}(o:Ob A B)(hw:Ow A sp):St A B sp sp:=St.kp o.ga hw o.kp
theorem GA.grown (h:GA A){B:AR}{sp':Sp}{s size:Nat}(g:Grown A B sp sp' s size):GA B:=by
 have e:∀{j d tt},Cl B j d tt↔Cl A j d tt:=λ{j d tt}=>by unfold Cl;rw[g.tb,g.cE]
 exact⟨g.pg,by rw[g.tb];exact h.tb,by rw[g.cE,g.tb];exact h.lc,by rw[g.cM,g.tb];exact h.lt,λj d tt a=>h.cE j d tt (e.1 a),λj d tt a=>h.one j d tt (e.1 a),λj d tt a p=>by rw[g.ow];exact h.ow j d tt (e.1 a) p,
  λp=>by rw[g.ow,g.runs];exact h.jX p,λp=>by rw[g.ow,g.tb];exact h.sd p,by rw[g.runs];exact h.gJ,by rw[g.runs];exact h.kj,by rw[g.cM];exact h.px,λj d tt t a b=>h.l6 j d tt t (e.1 a) (by rw[←g.cM];exact b),by rw[g.tb,g.cM];exact h.oM⟩
theorem Grown.st (h:GA A)(hw:Ow A sp){B:AR}{sp':Sp}{s size:Nat}(g:Grown A B sp sp' s size):St A B sp sp':=by
 have d:∀p,B.f p≠A.f p->s<=p/\p<s+size:=λp b=>by
  apply Classical.byContradiction;intro hn;exact b (g.o p hn).1
 refine⟨h.grown g,⟨g.l.trans (hw.l.trans g.n.symm),λp b=>?_,λp b=>?_,λp=>?_⟩,g.n,g.tb,g.room,λp j e=>?_,λp j e=>?_,λp j e=>?_⟩
 ·by_cases a:s<=p/\p<s+size
  ·rw[(g.i p a.1 a.2).2];omega
  ·rw[(g.o p a).2];rw[(g.o p a).1]at b;exact hw.own p b
 ·by_cases a:s<=p/\p<s+size
  ·rw[(g.i p a.1 a.2).2]
  ·rw[(g.o p a).2];rw[(g.o p a).1]at b;exact hw.cl p b
 ·by_cases a:s<=p/\p<s+size
  ·rw[(g.i p a.1 a.2).2];omega
  ·rw[(g.o p a).2];exact hw.le p
 ·refine(g.o p λa=>?_).2;rw[(g.i p a.1 a.2).1]at e;omega
 ·have:=d p O;rw[(g.i p this.1 this.2).1]at e;omega
 ·have:=d p O;exact⟨g.un p this.1 this.2,by have:=g.s1;omega⟩
theorem RN {n:Nat}{S:Nat->Bool}(hb:Bounded S n)(hn:n<=1024){j q m a:Nat}(hf:full S j q=true)(hm:m<=2^j)(ha:a<=2^j):Y8 n S m a≠none:=by
 intro h0;have s:S (q*2^j)=true:=Ys.1 hf _ (y6 _ (kD j));obtain⟨i,e⟩:=Us hb s;have g:j<=i:=by
  apply Classical.byContradiction;intro hlt;exact QH e hf rfl (y6 _ (kD j)) O
 have r:=ZG hb (Zw.1 e).1;have d:i<11:=by
  apply Classical.byContradiction;intro hge;have:2^11<=2^i:=pj O O;omega
 have p:2^j<=2^i:=pj O g;have:=UI h0 i d O O;have b:=(QF hb (k:=i)).2 ⟨_,rfl,e⟩;rw[this]at b;simp at b
theorem A8 (m:Nat):QR m=16\/QR m=32\/QR m=64:=by
 unfold QR;split
 ·exact .inl rfl
 ·split
  ·exact .inr (.inl rfl)
  ·exact .inr (.inr rfl)
theorem JV {m:Nat}(h:m<=64):m<=QR m:=by
 unfold QR;split
 ·omega
 ·split<;>omega
theorem D8 (h:GA A)(hw:Ow A sp){m a no:Nat}(h1:1<=m)(h2:m<=64)(ha:1<=a/\a<=16) :
 (cZ A sp m a no=(none,A,sp)/\Y8 A.n A.S m a=none/\cY sp (QR (max m a))=none) ∨
 ∃x A1 sp1,cZ A sp m a no=(some x,dQ A1 x m no,sp1)/\Y8 A1.n A1.S m a=some x/\(A1=A/\sp1=sp\/Y8 A.n A.S m a=none/\∃s,cY sp (QR (max m a))=some s/\Grown A A1 sp sp1 s (QR (max m a))):=by
 cases ht:Y8 A.n A.S m a with
 | some x=>exact .inr ⟨x,A,sp,by unfold cZ;rw[ht],ht,.inl ⟨rfl,rfl⟩⟩
 | none=>
  cases hg:UE A sp (QR (max m a))with
  | none=>
   refine .inl ⟨by unfold cZ;rw[ht,hg],rfl,?_⟩;unfold UE at hg;split at hg
   ·assumption
   ·cases hg
  | some r=>
   obtain⟨A1,sp1⟩:=r;obtain⟨s,w,g⟩:=JK h.pg hw.l (λp b=>Classical.byContradiction λy=>hw.own p y b) (A8 _) hg;have d:Y8 A1.n A1.S m a≠none:=by
    have z:=JV (m:=max m a) O;obtain⟨_,_,⟨i,B⟩,_⟩:=UF (by have:=A8 (max m a);omega) w;have key:∃j,QR (max m a)=2^j:=by
     rcases A8 (max m a)with e|e|e
     ·exact⟨4,e⟩
     ·exact⟨5,e⟩
     ·exact⟨6,e⟩
    obtain⟨j,C⟩:=key;refine RN g.pg.jq g.pg.n2 (j:=j) (q:=i) (Ys.2 λp b=>?_) O O;rw[g.pg.fr];rw[Z4,←C,←B]at b;rw[(g.i p b.1 b.2).1];omega
   obtain⟨x,u⟩:=Option.ne_none_iff_exists'.1 d;exact .inr ⟨x,A1,sp1,by unfold cZ;rw[ht,hg];simp only;rw[u],u,.inr ⟨rfl,s,w,g⟩⟩
theorem FV (h:PG A){m a x:Nat}(hx:Y8 A.n A.S m a=some x):∀p,x<=p->p<x+m->A.S p=true:=λp b d=>(lb h.jq hx).2 p b d
theorem Mb (h:PG A){m a x:Nat}(h1:1<=m)(h4:m<=4)(hx:Y8 A.n A.S m a=some x):x/16=(x+m-1)/16:=by
 obtain⟨j,_,b,_,d,_⟩:=VL hx;obtain⟨q,rfl,g⟩:=(QF h.jq).1 (List.mem_of_head? d)
 match j,b with
 | 0,b=>
  have:m=1:=by omega
  subst this;rfl
 | 1,b=>
  have:m<=2:=by omega
  simp only[Nat.pow_one]at *;omega
 | j+2,b=>
  have e:2^(j+2)=4*2^j:=by rw[Nat.pow_add];omega
  rw[e,←vK,Nat.mul_comm q 4,vK];generalize q*2^j=z;omega
theorem Iv (h:PG A){a m no:Nat}(h1:1<=m)(hn:no≠0)(hS:∀p,a<=p->p<a+m->A.S p=true):Kp A (dQ A a m no):=by
 obtain⟨o,e,d,g⟩:=AT h h1 hn hS;refine⟨rfl,rfl,rfl,g,λp b=>?_⟩;by_cases hin:a<=p/\p<a+m
 ·rw[(e p hin.1 hin.2).1]at b;omega
 ·rw[o.f p hin]at b;exact b
theorem GA.qD (h:GA A)(hk:Cl A k c ss){x:Nat}(hS:∀p,x<=p->p<x+c.aF->A.S p=true)(h1:x/16=(x+c.aF-1)/16) :
 GA {dQ A x c.aF (k+1)with cE:=(dQ A x c.aF (k+1)).cE.set k (ie c ss x)}/\(∀s∈ss,s.st+c.aF<=x\/x+c.aF<=s.st):=by
 have i:=h.cE k c ss hk;have m:=i.pg;have B:=hk.lt;have C:=h.tb;obtain⟨o,u,pg,F⟩:=AT h.pg m (no:=k+1) O hS;have r:∀p,x<=p->p<x+c.aF->A.ow p=0:=λp z D=>by
  have E:=(h.pg.fr p).1 (hS p z D);apply Classical.byContradiction;intro hne;have:=(h.pg.us p).2 hne;omega
 have hd:∀s∈ss,s.st+c.aF<=x\/x+c.aF<=s.st:=λs b=>by
  apply Classical.byContradiction;intro hn;have E:=r (max x s.st) O O;have:=(h.used hk b (p:=max x s.st) O O).2;omega
 refine⟨?_,hd⟩;have e:Cl (dQ A x c.aF (k+1)) k c ss:=hk;refine⟨pg.same rfl rfl rfl rfl,h.tb,by show(A.cE.set k _).length=_;simp[h.lc];rfl,h.lt,λj d g a=>?_,λj d g a s b=>?_,λj d g a p=>?_,λp=>?_,λp=>?_,h.gJ,h.kj,h.px,λj d g t a w=>?_,h.oM⟩
 ·rcases Ui e a with⟨rfl,rfl,rfl⟩|⟨hne,a⟩
  ·exact CF i hd
  ·exact h.cE j d g a
 ·rcases Ui e a with⟨rfl,rfl,rfl⟩|⟨hne,a⟩
  ·rcases Vk.1 b with rfl|b
   ·exact h1
   ·exact h.one _ _ _ hk s b
  ·exact h.one j d g a s b
 ·show(dQ A x c.aF (k+1)).ow p=j+1↔_;by_cases hp:x<=p/\p<x+c.aF
  ·rw[(u p hp.1 hp.2).2];rcases Ui e a with⟨rfl,rfl,rfl⟩|⟨hne,a⟩
   ·exact⟨λ_=>⟨_,Vk.2 (.inl rfl),hp.1,hp.2⟩,λ_=>rfl⟩
   ·rw[←h.ow j d g a p,r p hp.1 hp.2];omega
  ·rw[o.ow p hp];rcases Ui e a with⟨rfl,rfl,rfl⟩|⟨hne,a⟩
   ·rw[h.ow _ _ _ hk p];constructor
    ·rintro⟨s,b,h3⟩;exact⟨s,Vk.2 (.inr b),h3⟩
    ·rintro⟨s,b,h3⟩;rcases Vk.1 b with rfl|b
     ·exact(hp h3).elim
     ·exact⟨s,b,h3⟩
   ·exact h.ow j d g a p
 ·show(dQ A x c.aF (k+1)).ow p=41↔ma A.runs p;by_cases hp:x<=p/\p<x+c.aF
  ·rw[(u p hp.1 hp.2).2,←h.jX,r p hp.1 hp.2];omega
  ·rw[o.ow p hp];exact h.jX p
 ·show(dQ A x c.aF (k+1)).ow p=41\/(dQ A x c.aF (k+1)).ow p<=A.tb.length;by_cases hp:x<=p/\p<x+c.aF
  ·rw[(u p hp.1 hp.2).2];omega
  ·rw[o.ow p hp];exact h.sd p
 ·rcases Ui e a with⟨rfl,rfl,rfl⟩|⟨hne,a⟩
  ·intro y hy;exact(FM i hd).2 (h.l6 _ _ _ t hk w y hy)
  ·exact h.l6 j d g t a w
theorem GA.tz (h:GA A){x m:Nat}(hm:1<=m)(hS:∀p,x<=p->p<x+m->A.S p=true):GA {dQ A x m 41 with runs:=A.runs++[(x,m)]}:=by
 have y:=h.tb;obtain⟨o,e,pg,B⟩:=AT h.pg hm (no:=41) O hS;have i:∀p,x<=p->p<x+m->A.ow p=0:=λp w z=>by
  have u:=(h.pg.fr p).1 (hS p w z);apply Classical.byContradiction;intro hne;have:=(h.pg.us p).2 hne;omega
 refine⟨pg.same rfl rfl rfl rfl,h.tb,h.lc,h.lt,h.cE,h.one,λj d tt b p=>?_,λp=>?_,λp=>?_,λr a=>?_,?_,h.px,h.l6,h.oM⟩
 ·have b:Cl A j d tt:=b;have:=b.lt;show(dQ A x m 41).ow p=j+1↔_;by_cases hp:x<=p/\p<x+m
  ·rw[(e p hp.1 hp.2).2,←h.ow j d tt b p,i p hp.1 hp.2];omega
  ·rw[o.ow p hp];exact h.ow j d tt b p
 ·show(dQ A x m 41).ow p=41↔ma (A.runs++[(x,m)]) p;by_cases hp:x<=p/\p<x+m
  ·rw[(e p hp.1 hp.2).2];exact⟨λ_=>⟨(x,m),by simp,hp⟩,λ_=>rfl⟩
  ·rw[o.ow p hp,h.jX];constructor
   ·rintro⟨r,a,h3⟩;exact⟨r,by simp[a],h3⟩
   ·rintro⟨r,a,h3⟩;rcases zK.1 a with a|a
    ·exact⟨r,a,h3⟩
    ·simp only[zN]at a;subst a;exact(hp h3).elim
 ·show(dQ A x m 41).ow p=41\/(dQ A x m 41).ow p<=A.tb.length;by_cases hp:x<=p/\p<x+m
  ·rw[(e p hp.1 hp.2).2];omega
  ·rw[o.ow p hp];exact h.sd p
 ·rcases zK.1 a with a|a
  ·exact h.gJ r a
  ·simp only[zN]at a;subst a;exact hm
 ·refine pD.2 ⟨h.kj,by simp,λr a s g=>?_⟩;simp only[zN]at g;subst g;apply Classical.byContradiction;intro hn;simp only at hn;have:=h.gJ r a;have u:=i (max x r.1) O O;have:=(h.jy a (p:=max x r.1) O O).2;omega
theorem MJ {l:List (Nat×Nat)}{x m:Nat}(h:∀r∈l,r.1≠x):cA.mset2 l x m=l++[(x,m)]:=by
 unfold cA.mset2;rw[zB];simp only[kf,zT,not_exists,not_and];exact h
theorem G8 (h:GA A)(hw:Ow A sp)(k:Int) :
 ((cL A sp k=(A,sp))/\KH A sp k≠0/\(A.ck k=true->KH A sp k=6)) ∨
 ∃(j:Nat) (c:bZ) (ss:List cF) (x:Nat) (A1:AR) (sp1:Sp),k=j/\Cl A j c ss/\Cl A1 j c ss/\KH A sp k=0/\cL A sp k=({dQ A1 x c.aF (j+1)with cE:=(dQ A1 x c.aF (j+1)).cE.set j (ie c ss x)},sp1) ∧
  St A A1 sp sp1/\A1.runs=A.runs/\A1.cM=A.cM/\A1.cE=A.cE/\Y8 A1.n A1.S c.aF 1=some x/\(∀s∈ss,s.st+c.aF<=x\/x+c.aF<=s.st)/\St A (cL A sp k).1 sp (cL A sp k).2:=by
 by_cases hck:A.ck k=true
 ·obtain⟨j,rfl,F⟩:=U6.1 hck;obtain⟨c,ss,t,b,H⟩:=h.cl F;have D:=h.cE j c ss b;have y:=D.ok;unfold bZ.ok at y;have C:=b.lt;rcases D8 h hw (m:=c.aF) (a:=1) (no:=j+1) O O O with⟨hg,_⟩|⟨x,A1,sp1,hg,htk,hor⟩
  ·left;have w:KH A sp (j:Int)=6:=by unfold KH;rw[hck,zC rfl,dE,b.1,b.2];simp only;rw[hg]
   have E:cL A sp (j:Int)=(A,sp):=by unfold cL;rw[hck,zC rfl,dE,b.1,b.2];simp only;rw[hg]
   rw[E,w];exact⟨rfl,by simp,λ_=>rfl⟩
  ·right;have w:KH A sp (j:Int)=Gb c ss x:=by unfold KH;rw[hck,zC rfl,dE,b.1,b.2];simp only;rw[hg]
   have u:GA A1:=by
    rcases hor with⟨rfl,rfl⟩|⟨_,s,_,g⟩
    ·exact h
    ·exact h.grown g
   have e:St A A1 sp sp1:=by
    rcases hor with⟨rfl,rfl⟩|⟨_,s,_,g⟩
    ·exact St.refl h hw
    ·exact g.st h hw
   have d:A1.runs=A.runs/\A1.cM=A.cM/\A1.cE=A.cE:=by
    rcases hor with⟨rfl,rfl⟩|⟨_,s,_,g⟩
    ·exact⟨rfl,rfl,rfl⟩
    ·exact⟨g.runs,g.cM,g.cE⟩
   have r:Cl A1 j c ss:=⟨by rw[e.tb];exact b.1,by rw[d.2.2];exact b.2⟩;have z:=FV u.pg htk;obtain⟨G,hd⟩:=u.qD r z (Mb u.pg O O htk);have B:=RP hd;have p:cL A sp (j:Int)=({dQ A1 x c.aF (j+1)with cE:=(dQ A1 x c.aF (j+1)).cE.set j (ie c ss x)},sp1):=by
    unfold cL;rw[hck,zC rfl,dE,b.1,b.2];simp only;rw[hg];simp only;rw[zC B]
   refine⟨j,c,ss,x,A1,sp1,rfl,b,r,by rw[w];exact B,p,e,d.1,d.2.1,d.2.2,htk,hd,?_⟩;rw[p];have kp:=Iv u.pg (no:=j+1) O O z;exact e.trans (St.kp G e.ow (kp.trans (Kp.aF rfl rfl rfl rfl)))
 ·left;have i:A.ck k=false:=by simpa using hck
  unfold cL KH;rw[i];exact⟨rfl,by simp,λh=>by cases h⟩
theorem Og (h:GA A)(hw:Ow A sp)(k:Int):St A (cL A sp k).1 sp (cL A sp k).2/\(cL A sp k).1.runs=A.runs/\(cL A sp k).1.cM=A.cM/\(∀j y,fL (cL A sp k).1 j y↔fL A j y)/\(KH A sp k≠0->cL A sp k=(A,sp)):=by
 rcases G8 h hw k with⟨e,_⟩|⟨j,c,ss,x,A1,sp1,rfl,hk,hk1,hE,e,hst,r1,r2,r3,_,hd,hS⟩
 ·rw[e];exact⟨St.refl h hw,rfl,rfl,λ_ _=>Iff.rfl,λ_=>rfl⟩
 ·refine⟨hS,by rw[e];exact r1,by rw[e];exact r2,λi y=>?_,λd=>(d hE).elim⟩;rw[e];have b:Cl (dQ A1 x c.aF (j+1)) j c ss:=hk1;rw[yw b,FM (h.cE j c ss hk) hd];have e2:fL (dQ A1 x c.aF (j+1)) i y↔fL A i y:=by
   have:(dQ A1 x c.aF (j+1)).tb=A.tb/\(dQ A1 x c.aF (j+1)).cE=A.cE:=⟨hst.tb,r3⟩;unfold fL Cl;rw[this.1,this.2]
  rw[e2];by_cases hij:i=j
  ·subst hij;rw[Vd hk];exact⟨λa=>by rcases a with⟨_,a⟩|⟨a,_⟩;exact a;exact(a rfl).elim,λa=>.inl ⟨rfl,a⟩⟩
  ·exact⟨λa=>by rcases a with⟨a,_⟩|⟨_,a⟩;exact(hij a).elim;exact a,λa=>.inr ⟨hij,a⟩⟩
theorem RA {m a:Int}(h:Q9 m a=true):∃x y:Nat,m=x/\a=y/\1<=x/\x<=64/\(y=1\/y=2\/y=4\/y=8\/y=16):=by
 unfold Q9 at h;simp only[zF,zU,nr,zT]at h;exact⟨m.toNat,a.toNat,O,O,O,O,O⟩
theorem JY (h:GA A)(hw:Ow A sp)(m a:Int) :
 (cA A sp m a=(A,sp)/\Qm A sp m a≠0/\(Q9 m a=true->Qm A sp m a=6/\Y8 A.n A.S m.toNat a.toNat=none/\cY sp (QR (max m.toNat a.toNat))=none)) ∨
 ∃(x:Nat) (A1:AR) (sp1:Sp),Q9 m a=true/\Qm A sp m a=0/\ZY A sp m a=x/\cA A sp m a=({dQ A1 x m.toNat 41 with runs:=A.runs++[(x,m.toNat)]},sp1) ∧
  Y8 A1.n A1.S m.toNat a.toNat=some x/\(A1=A/\sp1=sp\/Y8 A.n A.S m.toNat a.toNat=none/\∃s,cY sp (QR (max m.toNat a.toNat))=some s/\Grown A A1 sp sp1 s (QR (max m.toNat a.toNat))) ∧
  St A (cA A sp m a).1 sp (cA A sp m a).2/\(cA A sp m a).1.cM=A.cM/\(∀j y,fL (cA A sp m a).1 j y↔fL A j y):=by
 by_cases hp:Q9 m a=true
 ·obtain⟨b,w,rfl,rfl,J,H,R⟩:=RA hp;have F:Qm A sp (b:Int) (w:Int)=if(cZ A sp b w 41).1.isSome then 0 else 6:=by unfold Qm;rw[zC hp,dE,dE]
  have M:ZY A sp (b:Int) (w:Int)=(cZ A sp b w 41).1.getD 0:=by unfold ZY;rw[zC hp,dE,dE]
  rcases D8 h hw (m:=b) (a:=w) (no:=41) J H O with⟨hg,hn1,hn2⟩|⟨x,A1,sp1,hg,htk,hor⟩
  ·left;have L:cA A sp (b:Int) (w:Int)=(A,sp):=by unfold cA;rw[zC hp,dE,dE,hg]
   rw[L,F,hg,dE,dE];exact⟨rfl,by simp,λ_=>⟨rfl,hn1,hn2⟩⟩
  ·right;have z:GA A1:=by
    rcases hor with⟨rfl,rfl⟩|⟨_,s,_,g⟩
    ·exact h
    ·exact h.grown g
   have u:St A A1 sp sp1:=by
    rcases hor with⟨rfl,rfl⟩|⟨_,s,_,g⟩
    ·exact St.refl h hw
    ·exact g.st h hw
   have d:A1.runs=A.runs/\A1.cM=A.cM/\A1.cE=A.cE:=by
    rcases hor with⟨rfl,rfl⟩|⟨_,s,_,g⟩
    ·exact⟨rfl,rfl,rfl⟩
    ·exact⟨g.runs,g.cM,g.cE⟩
   have D:=FV z.pg htk;have B:∀r∈A.runs,r.1≠x:=λr N e=>by
    have C:r∈A1.runs:=by rw[d.1];exact N
    have:=z.gJ r C;have P:=(z.jy C (p:=x) O O).1;have Q:=(z.pg.fr x).1 (D x O O);omega
   have i:cA A sp (b:Int) (w:Int)=({dQ A1 x b 41 with runs:=A.runs++[(x,b)]},sp1):=by
    unfold cA;rw[zC hp,dE,dE,hg];show({dQ A1 x b 41 with runs:=cA.mset2 A1.runs x b},sp1)=_;rw[d.1,MJ B]
   have G:=z.tz O D;rw[d.1]at G;have kp:=Iv z.pg (no:=41) O O D;refine⟨x,A1,sp1,hp,by rw[F,hg];rfl,by rw[M,hg];rfl,by rw[dE];exact i,by rw[dE,dE];exact htk,by rw[dE,dE];exact hor,?_,by rw[i];exact d.2.1,λj y=>?_⟩
   ·rw[i];exact u.trans (St.kp G u.ow (kp.trans (Kp.aF rfl rfl rfl rfl)))
   ·rw[i];have e1:({dQ A1 x b 41 with runs:=A.runs++[(x,b)]}:AR).tb=A.tb:=u.tb;have e2:({dQ A1 x b 41 with runs:=A.runs++[(x,b)]}:AR).cE=A.cE:=d.2.2;unfold fL Cl;rw[e1,e2]
 ·left;have E:Q9 m a=false:=by simpa using hp
  unfold cA Qm;rw[E];exact⟨rfl,by simp,λK=>by cases K⟩
theorem Oo {x:Int}{r:Nat×Nat}(h:pA A x=some r):r∈A.runs/\x=(r.1:Int):=by
 unfold pA at h;exact⟨sr h,by have:=sk h;simpa using Eq.symm (by simpa using this)⟩
theorem OY (h:GA A)(x:Int):(Kp A (Qr A x)/\GA (Qr A x))/\(Qr A x).cM=A.cM/\(∀j y,fL (Qr A x) j y↔fL A j y)/\(KK A x≠0->Qr A x=A) ∧
 (KK A x=0->∃r∈A.runs,x=(r.1:Int)/\(Qr A x).runs=A.runs.filter λq=>!(q==r)):=by
 cases hr:pA A x with
 | none=>
  have e:Qr A x=A:=by unfold Qr;rw[hr]
  have E:KK A x=8:=by unfold KK;rw[hr];rfl
  rw[e,E];exact⟨⟨Kp.refl A,h⟩,rfl,λ_ _=>Iff.rfl,λ_=>rfl,λi=>by cases i⟩
 | some r=>
  obtain⟨b,i⟩:=Oo hr;have u:=h.gJ r b;have w:A.runs.filter (λq=>!((q.1:Int)==x))=A.runs.filter λq=>!(q==r):=by
   apply wH;intro q g;have:((q.1:Int)==x)=(q==r):=by
    rw[l5];simp only[zT];constructor
    ·intro e;have J:=h.gJ q g;exact h.gK g b (x:=q.1) O O O O
    ·rintro rfl;exact i.symm
   rw[this]
  have e:Qr A x=VF {A with runs:=A.runs.filter λq=>!(q==r)} r:=by unfold Qr;rw[hr];simp only;rw[w]
  have E:KK A x=0:=by unfold KK;rw[hr];rfl
  obtain⟨a,m⟩:=r;obtain⟨o,B,pg,H⟩:=DD (A:={A with runs:=A.runs.filter λq=>!(q==(a,m))}) (h.pg.same rfl rfl rfl rfl) u (λp C D=>(h.jy b C D).1);have own:∀p,a<=p->p<a+m->A.ow p=41:=λp C D=>(h.jy b C D).2;have G:=h.tb;rw[e,E];refine⟨⟨⟨rfl,rfl,rfl,H,λp F=>?_⟩,?_⟩,rfl,λ_ _=>Iff.rfl,λi=>(i rfl).elim,λ_=>⟨_,b,i,rfl⟩⟩
  ·by_cases hin:a<=p/\p<a+m
   ·rw[(B p hin.1 hin.2).1]at F;omega
   ·rw[o.f p hin]at F;exact F
  ·refine⟨pg,h.tb,h.lc,h.lt,h.cE,h.one,λj d tt s p=>?_,λp=>?_,λp=>?_,λq g=>h.gJ q (zI.1 g).1,h.kj.filter _,h.px,h.l6,h.oM⟩
   ·have s:Cl A j d tt:=s;have:=s.lt;by_cases hin:a<=p/\p<a+m
    ·rw[(B p hin.1 hin.2).2,←h.ow j d tt s p,own p hin.1 hin.2];omega
    ·rw[o.ow p hin];exact h.ow j d tt s p
   ·show _↔ma (A.runs.filter λq=>!(q==(a,m))) p;by_cases hin:a<=p/\p<a+m
    ·rw[(B p hin.1 hin.2).2];constructor
     ·intro i;omega
     ·rintro⟨q,g,q1,q2⟩;have z:=zI.1 g;have:=h.gK z.1 b q1 q2 hin.1 hin.2;subst this;simp at z
    ·rw[o.ow p hin];show A.ow p=41↔_;rw[h.jX];constructor
     ·rintro⟨q,g,q1⟩;refine⟨q,zI.2 ⟨g,?_⟩,q1⟩;have:q≠(a,m):=by rintro rfl;exact hin q1
      simpa using this
     ·rintro⟨q,g,q1⟩;exact⟨q,(zI.1 g).1,q1⟩
   ·by_cases hin:a<=p/\p<a+m
    ·rw[(B p hin.1 hin.2).2];omega
    ·rw[o.ow p hin];exact h.sd p
theorem BG (k:Nat):∀(outs:List (List Int)) {A:AR},GA A->outs.flatten.Nodup->(∀x∈outs.flatten,fL A k x/\¬gU A k x) →
 Ob A (outs.foldl (λA' xs=>Zu A' (k:Int) xs) A)/\(outs.foldl (λA' xs=>Zu A' (k:Int) xs) A).cM=A.cM/\∀j y,fL (outs.foldl (λA' xs=>Zu A' (k:Int) xs) A) j y↔fL A j y/\¬(j=k/\y∈outs.flatten)
 | [],A,h,_,_=>⟨⟨h,Kp.refl A,rfl⟩,rfl,by simp⟩
 | xs::outs,A,h,hn,ht=>by
  rw[vO]at hn ht;have hn':=nJ.1 hn;have p:∀x∈xs,fL A k x/\¬gU A k x:=λx i=>ht x (ko _ i);rw[qA];cases xs with
  | nil=>
   have s:Zu A (k:Int) []=A\/QL A (k:Int) []=0:=by
    by_cases w:QL A (k:Int) []=0
    ·exact .inr w
    ·exact .inl (by unfold Zu;rw[zB w])
   obtain⟨o,e,t,_⟩:=BB h (k:=(k:Int)) (xs:=[]) (λ_=>by simp);have u:∀j y,fL (Zu A (k:Int) []) j y↔fL A j y:=λj y=>by
    rcases s with s|s
    ·rw[s]
    ·rw[t s];simp
   have m:∀j y,gU (Zu A (k:Int) []) j y↔gU A j y:=λj y=>by unfold gU;rw[e]
   obtain⟨o2,e2,z⟩:=BG k outs o.ga hn'.2.1 λx i=>by rw[u,m];exact ht x (nI _ i)
   exact⟨⟨o2.ga,o.kp.trans o2.kp,o2.runs.trans o.runs⟩,e2.trans e,λj y=>by rw[z,u];simp⟩
  | cons x0 xs=>
   obtain⟨c,C,B,_⟩:=(p x0 aA).1;have w:QL A (k:Int) (x0::xs)=0:=by
    rw[HD h B];exact Cv ⟨λx i=>(Vd B).1 (p x i).1,hn'.1⟩
   obtain⟨o,e,t,_⟩:=BB h (k:=(k:Int)) (xs:=x0::xs) (λ_ x i=>by rw[dE];exact(p x i).2);have u:=t w;have m:∀j y,gU (Zu A (k:Int) (x0::xs)) j y↔gU A j y:=λj y=>by unfold gU;rw[e]
   obtain⟨o2,e2,z⟩:=BG k outs o.ga hn'.2.1 λx i=>by
    rw[u,m];have:=ht x (nI _ i);exact⟨⟨this.1,λg=>hn'.2.2 x g.2 x i rfl⟩,this.2⟩
   refine⟨⟨o2.ga,o.kp.trans o2.kp,o2.runs.trans o.runs⟩,e2.trans e,λj y=>?_⟩;rw[z,u,dE,vO,zK];constructor
   ·rintro⟨⟨a,b⟩,d⟩;refine⟨a,λ⟨r,g⟩=>?_⟩;rcases g with g|g
    ·exact b ⟨r,g⟩
    ·exact d ⟨r,g⟩
   ·rintro⟨a,b⟩;exact⟨⟨a,λ⟨r,g⟩=>b ⟨r,.inl g⟩⟩,λ⟨r,g⟩=>b ⟨r,.inr g⟩⟩
structure tQ (A B:AR):Prop where
 ob:Ob A B
 sub:∀j y,gU B j y->gU A j y
 tk:∀j y,fL B j y↔fL A j y/\(gU A j y->gU B j y)
theorem tQ.trans {B C:AR}(h:tQ A B)(k:tQ B C):tQ A C:=
 ⟨⟨k.ob.ga,h.ob.kp.trans k.ob.kp,k.ob.runs.trans h.ob.runs⟩,λj y g=>h.sub j y (k.sub j y g),λj y=>by
  rw[k.tk,h.tk];exact⟨λ⟨⟨a,b⟩,d⟩=>⟨a,λe=>d (b e)⟩,λ⟨a,b⟩=>⟨⟨a,λe=>k.sub j y (b e)⟩,λe=>b (h.sub j y e)⟩⟩⟩
theorem O0 (h:GA A)(hk:k<A.tb.length):tQ A (ur A k):=by
 obtain⟨c,G,t,E,m⟩:=h.cl hk;have p:k<A.cM.length:=by rw[h.lt];exact hk
 have e:ur A k=t.out.foldl (λA' w=>Zu A' (k:Int) w) {A with cM:=A.cM.set k t.tick}:=by unfold ur;rw[m]
 have C:t.bs=t.out++t.tick.bs:=(nU ((t.low+1)/2) t.bs).symm;have i:t.bs.flatten=t.out.flatten++t.tick.bs.flatten:=by conv=>lhs;rw[C];rw[List.flatten_append]
 have r:=h.px k t m;rw[i]at r;have g:=nJ.1 r;have u:∀x∈t.bs.flatten,fL A k x:=λx d=>(Vd E).2 (h.l6 k c G t E m x d);have H:GA {A with cM:=A.cM.set k t.tick}:=h.jQ g.2.1 (λx d=>u x (by rw[i];exact nI _ d)) λF z w B=>h.oM k F t z m w (t.od w B);obtain⟨o,e2,D⟩:=BG k t.out H g.1 λx d=>by
  refine⟨u x (by rw[i];exact ko _ d),?_⟩;rw[xK p];rintro(⟨_,hy⟩|⟨hy,_⟩)
  ·exact g.2.2 x d x hy rfl
  ·exact hy rfl
 rw[←e]at o e2 D;have s:∀j y,gU (ur A k) j y↔(j=k/\y∈t.tick.bs.flatten)\/(j≠k/\gU A j y):=λj y=>by
  rw[←xK p];unfold gU;rw[e2]
 refine⟨⟨o.ga,(Kp.aF rfl rfl rfl rfl:Kp A {A with cM:=A.cM.set k t.tick}).trans o.kp,o.runs⟩,λj y d=>?_,λj y=>?_⟩
 ·rcases(s j y).1 d with⟨rfl,hy⟩|⟨_,hy⟩
  ·rw[Hz m,i];exact nI _ hy
  ·exact hy
 ·rw[D,s];show fL A j y/\_↔_;by_cases hjk:j=k
  ·subst hjk;rw[Hz m,i,zK];constructor
   ·rintro⟨a,b⟩;refine⟨a,λd=>?_⟩;rcases d with d|d
    ·exact(b ⟨rfl,d⟩).elim
    ·exact .inl ⟨rfl,d⟩
   ·rintro⟨a,b⟩;refine⟨a,λ⟨_,d⟩=>?_⟩;rcases b (.inl d)with⟨_,hy⟩|⟨hy,_⟩
    ·exact g.2.2 y d y hy rfl
    ·exact hy rfl
  ·exact⟨λ⟨a,_⟩=>⟨a,λd=>.inr ⟨hjk,d⟩⟩,λ⟨a,_⟩=>⟨a,λ⟨d,_⟩=>hjk d⟩⟩
theorem Du (h:GA A):∀m,m<=A.tb.length->tQ A ((List.range m).foldl ur A)
 | 0,_=>⟨⟨h,Kp.refl A,rfl⟩,λ_ _=>id,λ_ _=>⟨λa=>⟨a,id⟩,λa=>a.1⟩⟩
 | m+1,hm=>by
  have t:=Du h m O;rw[qm,wX,qA,List.foldl_nil];exact t.trans (O0 t.ob.ga (by rw[t.ob.kp.tb];omega))
theorem M7 (h:GA A):tQ A (rm A):=Du h _ (by rw[h.lt];exact zD _)
end Go.Ar
namespace Go.Ar
open Go.Bu (Zb QB Y8 pT Vb dC take Ke Kx Bounded)
variable {A:AR}{sp:Sp}{k:Nat}{c:bZ}{ss:List cF}
end Go.Ar
namespace Go.Ar
structure Pc where
 k:Nat
 cls:Int
 addr:Nat
 size:Nat
 eI:Bool
 deriving DecidableEq
structure Wd where
 tb:List bZ
 sp:Sp
 bX:List AR
 held:List Pc
structure Act where
 kd:Int
 ar:Int
 cl:Int
 a:Int
 b:Int
 l:List Int
abbrev Key:=Nat×Int×Nat
def Pc.key (p:Pc):Key:=(p.k,p.cls,p.addr)
def lY (k:Nat)(cls x:Int)(p:Pc):Bool:=p.k==k&&(p.cls==cls&&((p.addr:Int)==x && !p.eI))
def tV (held:List Pc)(k:Nat)(cls x:Int):Option Nat:=held.findIdx? (lY k cls x)
def jf (held:List Pc)(k:Nat)(cls:Int)(l:List Int):Bool:=l.all (λx=>(tV held k cls x).isSome)&&decide l.Nodup
def lI (k:Nat)(cls:Int)(held:List Pc)(x:Int):List Pc:=match tV held k cls x with
 | some i=>held.take i++held.drop (i+1)
 | none=>held
def xf (held:List Pc)(k:Nat)(cls:Int)(l:List Int):List Pc:=l.foldl (lI k cls) held
def dW (k:Nat)(cls:Int)(l:List Int)(p:Pc):Bool:=p.k==k&&(p.cls==cls&&l.contains (p.addr:Int))
def HN (held:List Pc)(k:Nat)(cls:Int)(l:List Int)(m:Bool):List Pc:=held.map λp=>if dW k cls l p then{p with eI:=m}else p
def xu (us:List AR)(held:List Pc):List Pc:=held.filter λp=>!p.eI||(match us[p.k]? with
 | some A=>vD A (p.addr:Int)
 | none=>false)
def og (tb:List bZ)(k:Int):Nat:=((tb[k.toNat]?).map (·.size)).getD 0
def Wd.put (W:Wd)(k:Nat)(A:AR)(sp:Sp)(held:List Pc):Wd:={W with sp:=sp,bX:=W.bX.set k A,held:=held}
def Hd (A:AR)(p:Pc):Prop:=(p.cls = -1/\p.eI=false/\∃r∈A.runs,p.addr=r.1*256/\p.size=r.2*256) ∨
 ∃(j:Nat) (c:bZ),p.cls=j/\A.tb[j]?=some c/\p.size=c.size/\fL A j (p.addr:Int)/\(p.eI=true↔gU A j (p.addr:Int))
structure WI (W:Wd):Prop where
 ga:∀(k:Nat) (A:AR),W.bX[k]?=some A->GA A
 ow:∀(k:Nat) (A:AR),W.bX[k]?=some A->Ow A W.sp
 tb:∀(k:Nat) (A:AR),W.bX[k]?=some A->A.tb=W.tb
 low:∀(k:Nat) (A:AR),W.bX[k]?=some A->∀p,p<16->A.f p=0
 own:∀p,gf W.sp.st p≠0->∃(k:Nat) (A:AR),W.bX[k]?=some A/\A.f p≠0
 one:∀p (k l:Nat) (A B:AR),W.bX[k]?=some A->W.bX[l]?=some B->A.f p≠0->B.f p≠0->k=l
 hk:(W.held.map Pc.key).Nodup
 hf:∀p∈W.held,∃A,W.bX[p.k]?=some A/\Hd A p
 ht:∀(k:Nat) (A:AR),W.bX[k]?=some A->∀(j:Nat) (y:Int),fL A j y->∃p∈W.held,p.k=k/\p.cls=j/\(p.addr:Int)=y
 hr:∀(k:Nat) (A:AR),W.bX[k]?=some A->∀r∈A.runs,∃p∈W.held,p.k=k/\p.cls = -1/\p.addr=r.1*256
variable {W:Wd}{k:Nat}{A:AR}
theorem KV {α:Type}{l:List α}{k j:Nat}{x y:α}(h:(l.set k x)[j]?=some y):(j=k/\y=x/\k<l.length)\/(j≠k/\l[j]?=some y):=by
 by_cases hjk:j=k
 ·subst hjk;have a:j<l.length:=by have:=(cW.1 h).1;simpa using this
  rw[zL a]at h;exact .inl ⟨rfl,(Option.some.inj h).symm,a⟩
 ·rw[zk (Ne.symm hjk)]at h;exact .inr ⟨hjk,h⟩
theorem WI.unique (h:WI W){p q:Pc}(hp:p∈W.held)(hq:q∈W.held)(e:p.key=q.key):p=q:=by
 obtain⟨i,d⟩:=zQ hp;obtain⟨j,g⟩:=zQ hq;obtain⟨a,rfl⟩:=cW.1 d;obtain⟨b,rfl⟩:=cW.1 g;have:=k6.1 h.hk;rcases pO i j with hl|hl|hl
 ·exact(this i j (by simpa using a) (by simpa using b) hl (by simpa using e)).elim
 ·subst hl;rfl
 ·exact(this j i (by simpa using b) (by simpa using a) hl (by simpa using e.symm)).elim
theorem WI.step (h:WI W)(hk:W.bX[k]?=some A){B:AR}{sp':Sp}{held':List Pc}(s:St A B W.sp sp')(h1:(held'.map Pc.key).Nodup)(h2:∀p∈held',p.k=k->Hd B p)(h3:∀p,p.k≠k->(p∈held'↔p∈W.held))
 (h4:∀(j:Nat) (y:Int),fL B j y->∃p∈held',p.k=k/\p.cls=j/\(p.addr:Int)=y) (h5:∀r∈B.runs,∃p∈held',p.k=k/\p.cls = -1/\p.addr=r.1*256):WI (W.put k B sp' held'):=by
 have z:=(cW.1 hk).1;have m:(W.bX.set k B)[k]?=some B:=zL z;have J:∀{j:Nat} {C:AR},j≠k->W.bX[j]?=some C->(W.bX.set k B)[j]?=some C:=λa e=>(zk (Ne.symm a)).trans e;have g:∀{j:Nat} {C:AR},j≠k->W.bX[j]?=some C->∀p,C.f p≠0->A.f p=0/\B.f p=0/\gf sp'.st p=gf W.sp.st p:=by
  intro j C a e p b;have u:A.f p=0:=Classical.byContradiction λx=>a (h.one p j k C A e hk b x);have w:B.f p=0:=Classical.byContradiction λx=>by
   have:=(s.new p u x).1;exact(h.ow j C e).own p b this
  exact⟨u,w,s.same p u w⟩
 refine⟨λj C a=>?_,λj C a=>?_,λj C a=>?_,λj C a p b=>?_,λp b=>?_,λp j l C D a G e F=>?_,h1,λp b=>?_,λj C a i y H=>?_,λj C a r hr=>?_⟩
 ·rcases KV a with⟨rfl,rfl,_⟩|⟨_,a⟩
  ·exact s.ga
  ·exact h.ga j C a
 ·rcases KV a with⟨rfl,rfl,_⟩|⟨d,a⟩
  ·exact s.ow
  ·have o:=h.ow j C a;have K:=h.ow k A hk;refine⟨?_,λp b=>?_,λp b=>?_,s.ow.le⟩
   ·show sp'.st.length=C.n;rw[s.ow.l,s.n,←K.l,o.l]
   ·show gf sp'.st p≠0;rw[(g d a p b).2.2];exact o.own p b
   ·show gf sp'.st p=1;rw[(g d a p O).2.2];exact o.cl p b
 ·rcases KV a with⟨rfl,rfl,_⟩|⟨_,a⟩
  ·exact s.tb.trans (h.tb _ A hk)
  ·exact h.tb j C a
 ·rcases KV a with⟨rfl,rfl,_⟩|⟨_,a⟩
  ·apply Classical.byContradiction;intro x;have:=s.new p (h.low _ A hk p b) x;omega
  ·exact h.low j C a p b
 ·have b:gf sp'.st p≠0:=b;by_cases w:B.f p=0
  ·by_cases u:A.f p=0
   ·rw[s.same p u w]at b;obtain⟨j,C,a,e⟩:=h.own p b;have d:j≠k:=by
     rintro rfl;rw[hk]at a;cases a;exact e u
    exact⟨j,C,J d a,e⟩
   ·exact(b (s.gone p u w)).elim
  ·exact⟨k,B,m,w⟩
 ·rcases KV a with⟨rfl,rfl,_⟩|⟨d,hj'⟩
  ·rcases KV G with⟨rfl,rfl,_⟩|⟨hne2,hl'⟩
   ·rfl
   ·exact(e (g hne2 hl' p F).2.1).elim
  ·rcases KV G with⟨rfl,rfl,_⟩|⟨hne2,hl'⟩
   ·exact(F (g d hj' p e).2.1).elim
   ·exact h.one p j l C D hj' hl' e F
 ·by_cases hpk:p.k=k
  ·exact⟨B,by rw[hpk];exact m,h2 p b hpk⟩
  ·obtain⟨C,e,L⟩:=h.hf p ((h3 p hpk).1 b);exact⟨C,J hpk e,L⟩
 ·rcases KV a with⟨rfl,rfl,_⟩|⟨d,a⟩
  ·exact h4 i y H
  ·obtain⟨p,b,e1,e2,E⟩:=h.ht j C a i y H;exact⟨p,(h3 p (by rw[e1];exact d)).2 b,e1,e2,E⟩
 ·rcases KV a with⟨rfl,rfl,_⟩|⟨d,a⟩
  ·exact h5 r hr
  ·obtain⟨p,b,e1,e2,E⟩:=h.hr j C a r hr;exact⟨p,(h3 p (by rw[e1];exact d)).2 b,e1,e2,E⟩
theorem Hd.to {B:AR}{p:Pc}(h:Hd A p)(e1:B.tb=A.tb)(e2:B.runs=A.runs)(e3:∀j y,fL A j y->fL B j y)(e4:∀j y,gU B j y↔gU A j y):Hd B p:=by
 rcases h with⟨h1,h2,r,hr,h3⟩|⟨j,c,h1,h2,h3,h4,h5⟩
 ·exact .inl ⟨h1,h2,r,by rw[e2];exact hr,h3⟩
 ·exact .inr ⟨j,c,h1,by rw[e1];exact h2,h3,e3 _ _ h4,by rw[e4];exact h5⟩
theorem WI.hd (h:WI W)(hk:W.bX[k]?=some A){p:Pc}(hp:p∈W.held)(e:p.k=k):Hd A p:=by
 obtain⟨C,a,b⟩:=h.hf p hp;rw[e,hk]at a;cases a;exact b
theorem WI.lx (h:WI W)(hk:W.bX[k]?=some A){B:AR}{sp':Sp}(s:St A B W.sp sp')(e2:B.runs=A.runs)(e3:∀j y,fL B j y↔fL A j y)(e4:B.cM=A.cM):WI (W.put k B sp' W.held):=
 h.step hk s h.hk (λp b e=>(h.hd hk b e).to s.tb e2 (λj y=>(e3 j y).2) λj y=>by unfold gU;rw[e4]) (λ_ _=>Iff.rfl) (λj y a=>h.ht k A hk j y ((e3 j y).1 a)) λr hr=>h.hr k A hk r (by rw[←e2];exact hr)
theorem WI.cls (h:WI W){p:Pc}(hp:p∈W.held){j:Nat}(e:p.cls=j)(hk:W.bX[p.k]?=some A):∃c,A.tb[j]?=some c/\p.size=c.size/\fL A j (p.addr:Int)/\(p.eI=true↔gU A j (p.addr:Int)):=by
 rcases h.hd hk hp rfl with⟨h1,_⟩|⟨i,c,h1,h2,h3,h4,h5⟩
 ·omega
 ·obtain rfl:i=j:=by omega
  exact⟨c,h2,h3,h4,h5⟩
theorem WI.run (h:WI W){p:Pc}(hp:p∈W.held)(e:p.cls = -1)(hk:W.bX[p.k]?=some A):p.eI=false/\∃r∈A.runs,p.addr=r.1*256/\p.size=r.2*256:=by
 rcases h.hd hk hp rfl with⟨_,h2⟩|⟨i,c,h1,_⟩
 ·exact h2
 ·omega
theorem KA {k:Nat}{cls x:Int}{p:Pc}:lY k cls x p=true↔p.k=k/\p.cls=cls/\(p.addr:Int)=x/\p.eI=false:=by
 simp[lY]
theorem ZV {k:Nat}{cls:Int}{l:List Int}{p:Pc}:dW k cls l p=true↔p.k=k/\p.cls=cls/\(p.addr:Int)∈l:=by
 simp[dW]
theorem Ov {held:List Pc}{k:Nat}{cls x:Int}{i:Nat}(h:tV held k cls x=some i):∃p,held[i]?=some p/\lY k cls x p=true:=by
 obtain⟨b,a,_⟩:=ng.1 h;exact⟨held[i],cT b,a⟩
theorem IF {held:List Pc}{k:Nat}{cls x:Int}{p:Pc}(hp:p∈held)(h:lY k cls x p=true):(tV held k cls x).isSome=true:=by
 unfold tV;rw[List.findIdx?_isSome,kf];exact⟨p,hp,h⟩
theorem Kv {held:List Pc}{k:Nat}{cls:Int}{l:List Int}:jf held k cls l=true↔(∀x∈l,∃p∈held,lY k cls x p=true)/\l.Nodup:=by
 unfold jf;rw[zF,j4,zU];refine and_congr_left λ_=>forall_congr' λx=>imp_congr_right λa=>?_;unfold tV;rw[List.findIdx?_isSome,kf]
theorem PV {held:List Pc}(hn:(held.map Pc.key).Nodup){i:Nat}{p:Pc}(hi:held[i]?=some p):held.take i++held.drop (i+1)=held.filter λq=>!(q.key==p.key):=by
 induction held generalizing i with
 | nil=>simp at hi
 | cons q l ih=>
  rw[zR,zt]at hn;cases i with
  | zero=>
   simp only[xG,Option.some.injEq]at hi;subst hi;have:l.filter (λr=>!(r.key==q.key))=l:=by
    rw[pH];intro r hr;have:r.key≠q.key:=λe=>hn.1 (zE.2 ⟨r,hr,e⟩);simpa using this
   simp[this]
  | succ i=>
   have hi:l[i]?=some p:=by simpa using hi
   have a:q.key≠p.key:=λe=>hn.1 (zE.2 ⟨p,zG hi,e.symm⟩);rw[uK,yg,lp,ih hn.2 hi,sI];have:(!(q.key==p.key))=true:=by simpa using a
   rw[this];rfl
theorem VN {held:List Pc}(hn:(held.map Pc.key).Nodup)(f:Pc->Bool):((held.filter f).map Pc.key).Nodup:=hn.sublist (List.filter_sublist.map _)
theorem DG {k:Nat}{cls:Int}:∀(l:List Int) {held:List Pc},(held.map Pc.key).Nodup->(∀x∈l,∃p∈held,lY k cls x p=true)->l.Nodup->xf held k cls l=held.filter λp=>!dW k cls l p
 | [],held,_,_,_=>by
  have:∀p,dW k cls [] p=false:=λp=>by simp[dW]
  exact(pH.2 λp _=>by rw[this];rfl).symm
 | x::l,held,hn,ho,hl=>by
  obtain⟨p,C,B⟩:=ho x aA;obtain⟨i,m⟩:=pW.1 (IF C B);obtain⟨q,A,j⟩:=Ov m;have d:=zt.1 hl;have e1:lI k cls held x=held.filter λr=>!(r.key==q.key):=by unfold lI;rw[m];exact PV hn A
  obtain⟨E,D,H,F⟩:=KA.1 j;have s:=DG l (held:=held.filter λr=>!(r.key==q.key)) (VN hn _) (λy u=>by
   obtain⟨r,w,g⟩:=ho y (by simp[u]);refine⟨r,zI.2 ⟨w,?_⟩,g⟩;have:r.key≠q.key:=λe=>by
    have G:r.addr=q.addr:=congrArg (λz:Key=>z.2.2) e;have:=(KA.1 g).2.2.1;have:y=x:=by omega
    subst this;exact d.1 u
   simpa using this) d.2
  unfold xf at s ⊢;rw[qA,e1,s,Aq];apply wH;intro r w;have e:(r.key==q.key)=(r.k==k&&(r.cls==cls&&(r.addr:Int)==x)):=by
   rw[l5];simp only[Pc.key,zT,zF,Prod.mk.injEq];constructor
   ·rintro⟨a,b,c⟩;exact⟨O,O,O⟩
   ·rintro⟨a,b,c⟩;exact⟨O,O,O⟩
  rw[e];unfold dW;rw[List.contains_cons];cases r.k==k<;>cases r.cls==cls<;>cases((r.addr:Int)==x)<;>cases l.contains (r.addr:Int)<;>rfl
theorem QC {held:List Pc}{k:Nat}{cls:Int}{l:List Int}{m:Bool}{p:Pc}:p∈HN held k cls l m↔∃q∈held,p=if dW k cls l q then{q with eI:=m}else q:=by
 unfold HN;rw[zE];constructor
 ·rintro⟨q,hq,rfl⟩;exact⟨q,hq,rfl⟩
 ·rintro⟨q,hq,rfl⟩;exact⟨q,hq,rfl⟩
theorem OU {held:List Pc}{k:Nat}{cls:Int}{l:List Int}{m:Bool}:(HN held k cls l m).map Pc.key=held.map Pc.key:=by
 unfold HN;rw[lh];apply ka;intro p _;simp only[Function.comp];split<;>rfl
theorem Gi (hk:W.bX[k]?=some A)(h:WI W):WI (W.put k A W.sp W.held):=h.lx hk (St.refl (h.ga k A hk) (h.ow k A hk)) rfl (λ_ _=>Iff.rfl) rfl
theorem OO (h:GA A){j:Nat}{c:bZ}{ss:List cF}(hc:Cl A j c ss){l:Nat}{s:cF}{i:Nat}(hs:ss[l]?=some s)(hi:i<c.n){x:Nat}(h1:at_ c s i<=x)(h2:x<at_ c s i+c.size):UR A (x:Int)=some ((j:Int),at_ c s i):=by
 have b:=h.cE j c ss hc;have d:=Hu b.pos hi h1 h2;have a:=h.used hc (zG hs) d.1 d.2;have g:=h.pg.lt (p:=x/256) (by rw[a.1];omega);have r:=h.pg.n2;have m:=hc.lt;have e:=h.tb;unfold UR;rw[zB O,dE];simp only;rw[zC (show x/256<1024 by omega),a.2,zB O,zB O,Nat.add_sub_cancel,hc.1,hc.2];simp only;rw[(Ik b).2 ⟨l,s,i,hs,hi,rfl,O,O⟩];rfl
theorem Fx (h:GA A){r:Nat×Nat}(hr:r∈A.runs){x:Nat}(h1:r.1*256<=x)(h2:x<(r.1+r.2)*256):UR A (x:Int)=some (-1,r.1*256):=by
 have a:=h.jy hr (p:=x/256) O O;have b:=h.pg.lt (p:=x/256) (by rw[a.1];omega);have d:=h.pg.n2;unfold UR;rw[zB O,dE];simp only;rw[zC (show x/256<1024 by omega),a.2,zB O,zC rfl,A0 h.om hr O O];rfl
theorem Ol (h:GA A){x:Int}{k:Int}{a:Nat}(hf:UR A x=some (k,a)):(k = -1/\∃r∈A.runs,a=r.1*256/\((r.1*256:Nat):Int)<=x/\x<(((r.1+r.2)*256:Nat):Int)) ∨
 ∃(j:Nat) (c:bZ) (ss:List cF) (l:Nat) (s:cF) (i:Nat),k=j/\Cl A j c ss/\ss[l]?=some s/\i<c.n/\a=at_ c s i/\((at_ c s i:Nat):Int)<=x/\x<((at_ c s i+c.size:Nat):Int):=by
 unfold UR at hf;split at hf
 ·cases hf
 ·rename_i hx;obtain⟨y,rfl⟩:=zc (show 0<=x by omega);rw[dE]at hf;simp only at hf;by_cases hlt:y/256<1024
  ·rw[zC hlt]at hf;split at hf
   ·cases hf
   ·split at hf
    ·rename_i h0 h41;obtain⟨r,e,b⟩:=pt.1 hf;have m:=sr e;have g:=sk e;simp at g;cases b;exact .inl ⟨rfl,r,m,rfl,O,O⟩
    ·rename_i h0 h41;split at hf
     ·rename_i c ss h1 h2;obtain⟨C,u,b⟩:=pt.1 hf;cases b;have d:Cl A (A.ow (y/256)-1) c ss:=⟨h1,h2⟩;obtain⟨l,s,i,w,z,rfl,p,B⟩:=(Ik (h.cE _ _ _ d)).1 u;exact .inr ⟨_,c,ss,l,s,i,rfl,d,w,z,rfl,p,B⟩
     ·cases hf
  ·rw[zB hlt,zC rfl]at hf;cases hf
theorem fL.find (h:GA A){j:Nat}{x:Int}(hx:fL A j x):∃y:Nat,x=y/\UR A x=some ((j:Int),y):=by
 obtain⟨c,d,a,e⟩:=hx;have b:=h.cE j c d a;obtain⟨l,s,i,g,m,rfl,p⟩:=(Vz b).1 e;exact⟨_,rfl,OO h a g m (zD _) (by have:=b.pos;omega)⟩
theorem Aj (h:GA A){x:Int}:vD A x=true↔(∃j,fL A j x)\/∃r∈A.runs,x=((r.1*256:Nat):Int):=by
 constructor
 ·intro hx;unfold vD at hx;split at hx
  ·rename_i k a e;split at hx
   ·rename_i he;rcases Ol h e with⟨rfl,r,hr,rfl,_⟩|⟨j,c,d,l,s,i,rfl,b,hs,hi,rfl,_⟩
    ·exact .inr ⟨r,hr,he.symm⟩
    ·rw[zB O,dE,b.1,b.2]at hx;exact .inl ⟨j,c,d,b,by simpa[Tk]using hx⟩
   ·cases hx
  ·cases hx
 ·rintro(⟨j,hj⟩|⟨r,hr,rfl⟩)
  ·obtain⟨y,rfl,e⟩:=hj.find h;obtain⟨c,d,b,g⟩:=hj;unfold vD;rw[e];simp only;rw[zC True.intro,zB O,dE,b.1,b.2];unfold Tk at g;show(dV c d (y:Int)==some true)=true;rw[g];rfl
  ·unfold vD;have:=h.gJ r hr;rw[Fx h hr (zD _) O];simp
theorem WI.vz (h:WI W)(hk:W.bX[k]?=some A){cl:Int}{l:List Int}(ho:jf W.held k cl l=true){j:Nat}(e:cl=j):∀x∈l,¬gU A j x:=by
 intro x hx hin;obtain⟨p,r,a⟩:=(Kv.1 ho).1 x hx;obtain⟨g,i,m,d⟩:=KA.1 a;obtain⟨c,_,_,_,b⟩:=h.cls r (j:=j) (by rw[i,e]) (by rw[g];exact hk);rw[m]at b;rw[b.2 hin]at d;cases d
theorem WI.grow (h:WI W)(hk:W.bX[k]?=some A)(x:Int):WI (W.put k (cL A W.sp x).1 (cL A W.sp x).2 W.held):=by
 obtain⟨s,e1,e2,a,_⟩:=Og (h.ga k A hk) (h.ow k A hk) x;exact h.lx hk s e1 a e2
theorem WI.from (h:WI W)(hk:W.bX[k]?=some A)(cl m:Int):WI (W.put k (Yt A cl m) W.sp (W.held++(Ya A cl m).map λy=>⟨k,cl,y,og W.tb cl,false⟩)):=by
 obtain⟨o,e1,e2,L,E,C⟩:=FP (h.ga k A hk) cl m;have tb:(Yt A cl m).tb=A.tb:=o.kp.tb;have i:∀y∈Ya A cl m,∃j:Nat,cl=j/\j<A.tb.length:=λy g=>L (λe=>by rw[e]at g;simp at g);have s:∀y∈Ya A cl m,∀p∈W.held,¬(p.k=k/\p.cls=cl/\p.addr=y):=by
  rintro y g p d ⟨N,K,M⟩;obtain⟨j,rfl,_⟩:=i y g;obtain⟨c,_,_,ht,_⟩:=h.cls d K (by rw[N];exact hk);rw[M]at ht;exact E y g (by rw[dE];exact ht)
 refine h.step hk (o.st (h.ow k A hk)) ?_ (λp d e=>?_) (λp B=>?_) (λj y g=>?_) λr hr=>?_
 ·rw[zz,nJ];refine⟨h.hk,?_,λa G b F e=>?_⟩
  ·rw[lh];exact List.Pairwise.map (R:=(· ≠ ·)) _ (λa b z e=>z (by simpa[Pc.key]using e)) e2
  ·subst e;obtain⟨p,d,rfl⟩:=zE.1 G;obtain⟨q,J,e⟩:=zE.1 F;obtain⟨y,g,rfl⟩:=zE.1 J;simp only[Pc.key,Prod.mk.injEq]at e;exact s y g p d ⟨e.1.symm,e.2.1.symm,e.2.2.symm⟩
 ·rcases zK.1 d with d|d
  ·exact(h.hd hk d e).to tb o.runs (λj y u=>(C j y).2 (.inl u)) λj y=>by unfold gU;rw[e1]
  ·obtain⟨y,g,rfl⟩:=zE.1 d;obtain⟨j,rfl,u⟩:=i y g;refine .inr ⟨j,A.tb[j],rfl,by rw[tb];exact cT u,?_,(C j y).2 (.inr ⟨(dE j).symm,y,g,rfl⟩),?_⟩
   ·show og W.tb (j:Int)=_;unfold og;rw[dE,←h.tb k A hk,cT u];rfl
   ·constructor
    ·intro hx;cases hx
    ·rintro⟨t,ht,hx⟩;rw[e1]at ht;obtain⟨c,H,P,D,w⟩:=(h.ga k A hk).cl u;rw[ht]at w;cases w;exact(E y g (by rw[dE];exact(Vd D).2 ((h.ga k A hk).l6 j c H t D ht _ hx))).elim
 ·rw[zK];constructor
  ·rintro(d|d)
   ·exact d
   ·obtain⟨y,_,rfl⟩:=zE.1 d;exact(B rfl).elim
  ·exact .inl
 ·rcases(C j y).1 g with g|⟨rfl,x,hx,rfl⟩
  ·obtain⟨p,d,q⟩:=h.ht k A hk j y g;exact⟨p,ko _ d,q⟩
  ·obtain⟨j,rfl,_⟩:=i x hx;exact⟨_,nI _ (zE.2 ⟨x,hx,rfl⟩),rfl,by simp,rfl⟩
 ·rw[o.runs]at hr;obtain⟨p,d,q⟩:=h.hr k A hk r hr;exact⟨p,ko _ d,q⟩
theorem WI.xl (h:WI W){cl:Int}{l:List Int}(ho:jf W.held k cl l=true):xf W.held k cl l=W.held.filter λp=>!dW k cl l p:=
 DG l h.hk (Kv.1 ho).1 (Kv.1 ho).2
theorem WI.LH (h:WI W)(hk:W.bX[k]?=some A){cl:Int}{l:List Int}(ho:jf W.held k cl l=true):WI (W.put k (Zu A cl l) W.sp (if QL A cl l=0 then xf W.held k cl l else W.held)):=by
 have ga:=h.ga k A hk;obtain⟨o,e1,e2,K⟩:=BB ga (k:=cl) (xs:=l) λg x m=>by
  obtain⟨j,c,H,rfl,_⟩:=Bb ga g;rw[dE];exact h.vz hk ho rfl x m
 by_cases g:QL A cl l=0
 ·rw[zC g,h.xl ho];obtain⟨j,c,H,rfl,N,L⟩:=Bb ga g;have e2:=e2 g;rw[dE]at e2;refine h.step hk (o.st (h.ow k A hk)) (VN h.hk _) (λp u e=>?_) (λp z=>?_) (λi y G=>?_) λr hr=>?_
  ·have s:=zI.1 u;have B:dW k (j:Int) l p=false:=by simpa using s.2
   rcases h.hd hk s.1 e with⟨h1,h2,r,hr,h3⟩|⟨i,d,h1,h2,h3,h4,h5⟩
   ·exact .inl ⟨h1,h2,r,by rw[o.runs];exact hr,h3⟩
   ·refine .inr ⟨i,d,h1,by rw[o.kp.tb];exact h2,h3,(e2 i _).2 ⟨h4,λ⟨a,b⟩=>?_⟩,by unfold gU at h5 ⊢;rw[e1];exact h5⟩;have:dW k (j:Int) l p=true:=ZV.2 ⟨e,by rw[h1,a],b⟩;rw[B]at this;cases this
  ·rw[zI];have:dW k (j:Int) l p=false:=by
    apply nB.2;intro m;exact z (ZV.1 m).1
   rw[this];simp
  ·obtain⟨C,E⟩:=(e2 i y).1 G;obtain⟨p,u,F,D,w⟩:=h.ht k A hk i y C;refine⟨p,zI.2 ⟨u,?_⟩,F,D,w⟩;have:dW k (j:Int) l p=false:=by
    apply nB.2;intro m;obtain⟨_,M,J⟩:=ZV.1 m;exact E ⟨O,by rw[←w];exact J⟩
   rw[this];rfl
  ·rw[o.runs]at hr;obtain⟨p,u,F,D,w⟩:=h.hr k A hk r hr;refine⟨p,zI.2 ⟨u,?_⟩,F,D,w⟩;have:dW k (j:Int) l p=false:=by
    apply nB.2;intro m;have:=(ZV.1 m).2.1;omega
   rw[this];rfl
 ·rw[zB g,K g];exact Gi hk h
theorem WI.move (h:WI W)(hk:W.bX[k]?=some A){B:AR}{j:Nat}{l:List Int}{m:Bool}(o:Ob A B)(e1:∀i y,fL B i y↔fL A i y)(e2:∀i y,gU B i y↔if i=j/\y∈l then m=true else gU A i y):WI (W.put k B W.sp (HN W.held k (j:Int) l m)):=by
 refine h.step hk (o.st (h.ow k A hk)) (by rw[OU];exact h.hk) (λp b e=>?_) (λp a=>?_) (λi y g=>?_) λr hr=>?_
 ·obtain⟨q,s,rfl⟩:=QC.1 b;have d:q.k=k:=by
   split at e<;>exact e
  rcases h.hd hk s d with⟨h1,h2,r,hr,h3⟩|⟨i,c,h1,h2,h3,h4,h5⟩
  ·have:dW k (j:Int) l q=false:=by
    apply nB.2;intro hx;have:=(ZV.1 hx).2.1;omega
   rw[this];exact .inl ⟨h1,h2,r,by rw[o.runs];exact hr,h3⟩
  ·by_cases hx:dW k (j:Int) l q=true
   ·rw[zC hx];obtain⟨_,D,C⟩:=ZV.1 hx;have z:i=j:=by omega
    refine .inr ⟨i,c,h1,by rw[o.kp.tb];exact h2,h3,(e1 _ _).2 h4,?_⟩;show m=true↔gU B i (q.addr:Int);rw[e2,zC ⟨z,C⟩]
   ·rw[zB hx];refine .inr ⟨i,c,h1,by rw[o.kp.tb];exact h2,h3,(e1 _ _).2 h4,?_⟩;rw[e2,zB λg=>hx (ZV.2 ⟨d,by rw[h1,g.1],g.2⟩)];exact h5
 ·rw[QC];constructor
  ·rintro⟨q,s,rfl⟩;have:dW k (j:Int) l q=false:=by
    apply nB.2;intro hx;rw[zC hx]at a;exact a (ZV.1 hx).1
   rw[this];exact s
  ·intro b;refine⟨p,b,?_⟩;have:dW k (j:Int) l p=false:=by
    apply nB.2;intro hx;exact a (ZV.1 hx).1
   rw[this];rfl
 ·obtain⟨p,b,x,u,w⟩:=h.ht k A hk i y ((e1 i y).1 g);refine⟨_,QC.2 ⟨p,b,rfl⟩,?_,?_,?_⟩
  ·split<;>exact x
  ·split<;>exact u
  ·split<;>exact w
 ·rw[o.runs]at hr;obtain⟨p,b,x,u,w⟩:=h.hr k A hk r hr;refine⟨_,QC.2 ⟨p,b,rfl⟩,?_,?_,?_⟩
  ·split<;>exact x
  ·split<;>exact u
  ·split<;>exact w
theorem Nx {held:List Pc}{k:Nat}{cls:Int}{m:Bool}:HN held k cls [] m=held:=by
 unfold HN;have:∀p,dW k cls [] p=false:=λp=>by simp[dW]
 simp[this]
theorem WI.wx (h:WI W)(hk:W.bX[k]?=some A)(cl:Int):WI (W.put k (Zx A cl) W.sp (HN W.held k cl (Yp A cl) false)):=by
 obtain⟨o,e1,e2,s,m,a⟩:=Eh (h.ga k A hk) cl;by_cases hv:Yp A cl=[]
 ·rw[hv,Nx];have g:∀j y,gU (Zx A cl) j y↔gU A j y:=λj y=>by rw[a,hv];simp
  refine h.step hk (o.st (h.ow k A hk)) h.hk (λp b e=>(h.hd hk b e).to o.kp.tb o.runs (λj y=>(e1 j y).2) g) (λ_ _=>Iff.rfl) (λj y d=>h.ht k A hk j y ((e1 j y).1 d)) λr hr=>h.hr k A hk r (by rw[←o.runs];exact hr)
 ·obtain⟨j,rfl,_⟩:=m hv;rw[dE]at a;exact h.move hk o e1 λi y=>by
   rw[a];split
   ·rename_i hx;simp[hx]
   ·rename_i hx;simp[hx]
theorem WI.PH (h:WI W)(hk:W.bX[k]?=some A){cl:Int}{l:List Int}(ho:jf W.held k cl l=true):WI (W.put k (QV A cl l) W.sp (if K0 A cl l then HN W.held k cl l true else W.held)):=by
 by_cases a:K0 A cl l=true
 ·have b:∃j:Nat,cl=j:=by
   have d:Ha A cl l=0:=by
    unfold K0 at a;simp only[zF,zU]at a;exact a.1
   have b:A.ck cl=true:=by
    unfold Ha at d;split at d
    ·assumption
    ·cases d
   obtain⟨j,g,_⟩:=U6.1 b;exact⟨j,g⟩
  obtain⟨j,rfl⟩:=b;obtain⟨o,e1,e2,_⟩:=Sj (h.ga k A hk) (j:Int) (xs:=l) (Kv.1 ho).2 (by rw[dE];exact h.vz hk ho rfl);obtain⟨_,_,e2⟩:=e2 a;rw[dE]at e2;rw[a,zC rfl];exact h.move hk o e1 λi y=>by
   rw[e2];split
   ·rename_i hx;simp[hx]
   ·rename_i hx;simp[hx]
 ·have a:K0 A cl l=false:=by simpa using a
  have e:QV A cl l=A:=by unfold QV;rw[a];rfl
  rw[a,e];exact Gi hk h
theorem WI.wg (h:WI W)(hk:W.bX[k]?=some A)(m a:Int):WI (W.put k (cA A W.sp m a).1 (cA A W.sp m a).2 (if Qm A W.sp m a=0 then W.held++[⟨k, -1,ZY A W.sp m a*256,m.toNat*256,false⟩]else W.held)):=by
 rcases JY (h.ga k A hk) (h.ow k A hk) m a with⟨e,hE,_⟩|⟨x,A1,sp1,g,hE,hV,e,htk,hor,s,et,ek⟩
 ·rw[zB hE,e];exact Gi hk h
 ·rw[zC hE,hV];have z:(cA A W.sp m a).1.runs=A.runs++[(x,m.toNat)]:=by rw[e]
  have w:∀r∈A.runs,r.1≠x:=by
   have hd:=s.ga.kj;rw[z]at hd;intro r hr e2;have u:=(pD.1 hd).2.2 r hr (x,m.toNat) aA;have B:=(h.ga k A hk).gJ r hr;have i:=s.ga.gJ (x,m.toNat) (by rw[z];simp);simp only at u i;omega
  refine h.step hk s ?_ (λp g e=>?_) (λp C=>?_) (λj y D=>?_) λr hr=>?_
  ·rw[zz,nJ];refine⟨h.hk,by simp,λb E d hd e2=>?_⟩;subst e2;obtain⟨p,g,rfl⟩:=zE.1 E;simp only[zR,pE,zN,Pc.key,Prod.mk.injEq]at hd;obtain⟨_,r,hr,i,_⟩:=h.run g hd.2.1 (A:=A) (by rw[hd.1];exact hk);exact w r hr O
  ·rcases zK.1 g with g|g
   ·rcases h.hd hk g e with⟨u,B,r,hr,i⟩|⟨j,c,u,B,i,h4,h5⟩
    ·exact .inl ⟨u,B,r,by rw[z];exact ko _ hr,i⟩
    ·exact .inr ⟨j,c,u,by rw[s.tb];exact B,i,(ek _ _).2 h4,by unfold gU at h5 ⊢;rw[et];exact h5⟩
   ·simp only[zN]at g;subst g;exact .inl ⟨rfl,rfl,(x,m.toNat),by rw[z];simp,rfl,rfl⟩
  ·rw[zK];constructor
   ·rintro(g|g)
    ·exact g
    ·simp only[zN]at g;subst g;exact(C rfl).elim
   ·exact .inl
  ·obtain⟨p,g,q⟩:=h.ht k A hk j y ((ek j y).1 D);exact⟨p,ko _ g,q⟩
  ·rw[z]at hr;rcases zK.1 hr with hr|hr
   ·obtain⟨p,g,q⟩:=h.hr k A hk r hr;exact⟨p,ko _ g,q⟩
   ·simp only[zN]at hr;subst hr;exact⟨_,nI _ (zN.2 rfl),rfl,rfl,rfl⟩
theorem WI.mT (h:WI W)(hk:W.bX[k]?=some A){r:Nat×Nat}(hr:r∈A.runs):jf W.held k (-1) [(r.1:Int)*256]=true:=by
 refine Kv.2 ⟨λx e=>?_,by simp⟩;simp only[zN]at e;subst e;obtain⟨p,b,a,d,g⟩:=h.hr k A hk r hr;exact⟨p,b,KA.2 ⟨a,d,O,(h.run b d (by rw[a];exact hk)).1⟩⟩
theorem WI.wI (h:WI W)(hk:W.bX[k]?=some A)(x:Int):WI (W.put k (Qr A x) W.sp (if KK A x=0 then xf W.held k (-1) [x*256]else W.held)):=by
 have ga:=h.ga k A hk;obtain⟨⟨kp,g⟩,L,G,e1,e2⟩:=OY ga x;by_cases h0:KK A x=0
 ·rw[zC h0];obtain⟨r,hr,rfl,J⟩:=e2 h0;rw[h.xl (h.mT hk hr)];have m:∀p:Pc,dW k (-1) [(r.1:Int)*256] p=true↔p.k=k/\p.cls = -1/\p.addr=r.1*256:=λp=>by
   rw[ZV];simp only[zN];constructor
   ·rintro⟨a,b,c⟩;exact⟨a,b,O⟩
   ·rintro⟨a,b,c⟩;exact⟨a,b,O⟩
  refine h.step hk (St.kp g (h.ow k A hk) kp) (VN h.hk _) (λp u e=>?_) (λp B=>?_) (λi y K=>?_) λq d=>?_
  ·have z:=zI.1 u;have s:¬dW k (-1) [(r.1:Int)*256] p=true:=by simpa using z.2
   rw[m]at s;rcases h.hd hk z.1 e with⟨h1,h2,q,d,w⟩|⟨j,c,h1,h2,w,H,C⟩
   ·refine .inl ⟨h1,h2,q,?_,w⟩;rw[J,zI];refine⟨d,?_⟩;have:q≠r:=by rintro rfl;exact s ⟨e,h1,w.1⟩
    simpa using this
   ·exact .inr ⟨j,c,h1,by rw[kp.tb];exact h2,w,(G _ _).2 H,by unfold gU at C ⊢;rw[L];exact C⟩
  ·rw[zI];have:dW k (-1) [(r.1:Int)*256] p=false:=by
    apply nB.2;intro hx;exact B (ZV.1 hx).1
   rw[this];simp
  ·obtain⟨p,u,F,D,E⟩:=h.ht k A hk i y ((G i y).1 K);refine⟨p,zI.2 ⟨u,?_⟩,F,D,E⟩;have:dW k (-1) [(r.1:Int)*256] p=false:=by
    apply nB.2;intro hx;have:=((m p).1 hx).2.1;omega
   rw[this];rfl
  ·rw[J,zI]at d;obtain⟨p,u,F,D,E⟩:=h.hr k A hk q d.1;refine⟨p,zI.2 ⟨u,?_⟩,F,D,E⟩;have:dW k (-1) [(r.1:Int)*256] p=false:=by
    apply nB.2;intro hx;have w:=((m p).1 hx).2.2;have H:=ga.gJ q d.1;have C:=ga.gJ r hr;have:q=r:=ga.gK d.1 hr (x:=q.1) O O O O;subst this;simp at d
   rw[this];rfl
 ·rw[zB h0,e1 h0];exact Gi hk h
theorem WI.tick (h:WI W)(hk:W.bX[k]?=some A):WI (W.put k (rm A) W.sp (xu (W.bX.set k (rm A)) W.held)):=by
 have ga:=h.ga k A hk;have t:=M7 ga;have m:=(cW.1 hk).1;have d:(W.bX.set k (rm A))[k]?=some (rm A):=zL m;have bS:∀p∈W.held,p∈xu (W.bX.set k (rm A)) W.held↔(p.k=k->∀j:Nat,p.cls=j->fL (rm A) j (p.addr:Int)):=by
  intro p a;unfold xu;rw[zI];simp only[a,tB,nr,l9];by_cases hpk:p.k=k
  ·rw[hpk,d];simp only[true_implies];rcases h.hd hk a hpk with⟨h1,h2,r,hr,h3⟩|⟨j,c,h1,h2,h3,h4,h5⟩
   ·exact⟨λ_ j s=>O,λ_=>.inl h2⟩
   ·constructor
    ·intro hx i G;obtain rfl:i=j:=by omega
     rcases hx with hx|hx
     ·refine(t.tk i _).2 ⟨h4,λw=>?_⟩;rw[h5.2 w]at hx;cases hx
     ·rcases(Aj t.ob.ga).1 hx with⟨j',hj'⟩|⟨r,hr,e⟩
      ·obtain⟨y,e,hf⟩:=((t.tk j' _).1 hj').1.find ga;obtain⟨L,K,b⟩:=h4.find ga;rw[hf]at b;have:j'=i:=by
        have:=congrArg Prod.fst (Option.some.inj b);simp only at this;omega
       rw[←this];exact hj'
      ·rw[t.ob.runs]at hr;have:=ga.gJ r hr;have J:=Fx ga hr (x:=r.1*256) (zD _) O;obtain⟨L,K,b⟩:=h4.find ga;rw[e,J]at b;have:=congrArg Prod.fst (Option.some.inj b);simp only at this;omega
    ·intro hx;by_cases hm:p.eI=true
     ·exact .inr ((Aj t.ob.ga).2 (.inl ⟨j,hx j h1⟩))
     ·exact .inl (by simpa using hm)
  ·constructor
   ·intro _ hx;exact(hpk hx).elim
   ·intro _;obtain⟨C,E,H⟩:=h.hf p a;rw[zk (Ne.symm hpk),E];rcases H with⟨h1,h2,_⟩|⟨j,c,_,_,_,h4,_⟩
    ·exact .inl h2
    ·exact .inr ((Aj (h.ga _ C E)).2 (.inl ⟨j,h4⟩))
 have sub:∀p,p∈xu (W.bX.set k (rm A)) W.held->p∈W.held:=λp a=>(zI.1 a).1;refine h.step hk (t.ob.st (h.ow k A hk)) (VN h.hk _) (λp a e=>?_) (λp u=>⟨sub p,λa=>(bS p a).2 λe=>(u e).elim⟩) (λj y F=>?_) λr hr=>?_
 ·have z:=(bS p (sub p a)).1 a e;rcases h.hd hk (sub p a) e with⟨h1,h2,r,hr,h3⟩|⟨j,c,h1,h2,h3,h4,h5⟩
  ·exact .inl ⟨h1,h2,r,by rw[t.ob.runs];exact hr,h3⟩
  ·have s:=z j h1;refine .inr ⟨j,c,h1,by rw[t.ob.kp.tb];exact h2,h3,s,?_⟩;rw[h5];exact⟨((t.tk j _).1 s).2,t.sub j _⟩
 ·obtain⟨p,a,D,B,g⟩:=h.ht k A hk j y ((t.tk j y).1 F).1;refine⟨p,(bS p a).2 λ_ i G=>?_,D,B,g⟩;obtain rfl:i=j:=by omega
  rw[g];exact F
 ·rw[t.ob.runs]at hr;obtain⟨p,a,D,B,g⟩:=h.hr k A hk r hr;exact⟨p,(bS p a).2 λ_ i G=>O,D,B,g⟩
theorem WI.qI (h:WI W){p:Pc}(hp:p∈W.held)(hk:W.bX[p.k]?=some A){x:Nat}(h1:p.addr<=x)(h2:x<p.addr+p.size):A.f (x/256)=1:=by
 have ga:=h.ga _ A hk;rcases h.hd hk hp rfl with⟨_,_,r,hr,e1,e2⟩|⟨j,c,_,hc,e1,ht,_⟩
 ·exact(ga.jy hr O O).1
 ·obtain⟨b,m,a,d⟩:=ht;have:b=c:=Option.some.inj (a.1.symm.trans hc);subst this;have g:=ga.cE j b m a;obtain⟨l,s,i,u,w,e,_⟩:=(Vz g).1 d;have y:p.addr=at_ b s i:=Int.ofNat.inj e;have:=Hu g.pos w (s:=s) (x:=x) O O;exact(ga.used a (zG u) this.1 this.2).1
theorem fL.lt (h:GA A){j:Nat}{x:Int}(hx:fL A j x):∃y:Nat,x=y/\y<262144:=by
 obtain⟨c,e,b,g⟩:=hx;have a:=h.cE j c e b;obtain⟨l,s,i,m,r,rfl,u⟩:=(Vz a).1 g;have d:=Hu a.pos (s:=s) (x:=at_ c s i) r (zD _) (by have:=a.pos;omega);have w:=(h.used b (zG m) d.1 d.2).1;have:=h.pg.lt (p:=at_ c s i/256) O;have:=h.pg.n2;exact⟨_,rfl,O⟩
theorem WI.jG (h:WI W){p:Pc}(hp:p∈W.held):p.addr<262144/\p.addr+p.size<=270000:=by
 obtain⟨A,m,d⟩:=h.hf p hp;have ga:=h.ga _ A m;have x:=ga.pg.n2;rcases d with⟨_,_,r,hr,h1,h2⟩|⟨j,c,_,hc,h2,h3,_⟩
 ·have w:=ga.fit hr;have s:=ga.gJ r hr;omega
 ·obtain⟨y,e,u⟩:=h3.lt ga;obtain⟨g,i,a,_⟩:=h3;have:g=c:=Option.some.inj (a.1.symm.trans hc);subst this;have b:=(ga.cE j _ i a).ok;unfold bZ.ok at b;omega
theorem BP:∀(N:Nat) (l:List Nat),l.Nodup->(∀x∈l,x<N)->l.length<=N
 | 0,l,_,h=>by
  cases l with
  | nil=>simp
  | cons x l=>have:=h x aA;omega
 | N+1,l,hn,h=>by
  have i:=BP N (l.filter (· != N)) (hn.sublist sW) λx b=>by
   have b:=zI.1 b;have:=h x b.1;have:x≠N:=by simpa using b.2
   omega
  have d:=List.length_eq_countP_add_countP (l:=l) (p:=(· != N));have g:l.countP (λa=>¬(a != N)=true)<=1:=by
   have e:l.countP (λa=>¬(a != N)=true)=l.count N:=by
    unfold List.count;apply List.countP_congr;intro x _;simp
   rw[e];exact Bp.1 hn N
  rw[yv]at d;omega
theorem WI.apart (h:WI W){p q:Pc}(hp:p∈W.held)(hq:q∈W.held){x:Nat}(p1:p.addr<=x)(p2:x<p.addr+p.size)(q1:q.addr<=x)(q2:x<q.addr+q.size):p=q:=by
 obtain⟨A,y,K⟩:=h.hf p hp;obtain⟨B,m,F⟩:=h.hf q hq;have e1:=h.qI hp y p1 p2;have e2:=h.qI hq m q1 q2;have z:p.k=q.k:=h.one (x/256) p.k q.k A B y m O O;rw[←z,y]at m;cases m;have ga:=h.ga _ A y;have J:=ga.tb;have own:∀{r:Pc},Hd A r->r.addr<=x->x<r.addr+r.size->(r.cls = -1/\A.ow (x/256)=41/\∃u∈A.runs,r.addr=u.1*256/\u.1<=x/256/\x/256<u.1+u.2) ∨
  ∃(j:Nat) (c:bZ) (b:List cF) (l:Nat) (s:cF) (i:Nat),r.cls=j/\A.ow (x/256)=j+1/\Cl A j c b/\b[l]?=some s/\i<c.n/\r.addr=at_ c s i/\r.size=c.size:=by
  intro r hr r1 r2;rcases hr with⟨c1,_,u,hu,c2,c3⟩|⟨j,c,c1,c2,c3,c4,_⟩
  ·exact .inl ⟨c1,(ga.jy hu O O).2,u,hu,c2,O,O⟩
  ·obtain⟨d,b,a,H⟩:=c4;have:d=c:=Option.some.inj (a.1.symm.trans c2);subst this;have C:=ga.cE j d b a;obtain⟨l,s,i,D,E,e,_⟩:=(Vz C).1 H;have G:r.addr=at_ d s i:=Int.ofNat.inj e;have g:=Hu C.pos (s:=s) (x:=x) E O O;exact .inr ⟨j,d,b,l,s,i,c1,(ga.used a (zG D) g.1 g.2).2,a,D,E,G,c3⟩
 refine h.unique hp hq ?_;rcases own K p1 p2 with⟨a1,a2,u,hu,a3,a4,a5⟩|⟨j,c,b,l,s,i,a1,a2,a3,a4,a5,a6,a7⟩
 ·rcases own F q1 q2 with⟨b1,b2,w,hw,b3,b4,b5⟩|⟨j',d,ss',l',s',i',b1,b2,b3,b4,b5,b6,b7⟩
  ·have:=ga.gK hu hw a4 a5 b4 b5;subst this;unfold Pc.key;rw[z,a1,b1,a3,b3]
  ·have:=b3.lt;omega
 ·rcases own F q1 q2 with⟨b1,b2,w,hw,b3,b4,b5⟩|⟨j',d,ss',l',s',i',b1,b2,b3,b4,b5,b6,b7⟩
  ·have:=a3.lt;omega
  ·have L:j=j':=by omega
   subst L;obtain⟨rfl,rfl⟩:=a3.eq b3;have:=V6 (ga.cE j c b a3) a4 b4 a5 b5 (x:=x) O O O O;unfold Pc.key;rw[z,a1,b1,a6,b6,this.2.1,this.2.2]
theorem WI.size_pos (h:WI W){p:Pc}(hp:p∈W.held):8<=p.size/\p.size%8=0:=by
 obtain⟨A,i,d⟩:=h.hf p hp;have ga:=h.ga _ A i;rcases d with⟨_,_,r,hr,h1,h2⟩|⟨j,c,_,hc,h2,h3,_⟩
 ·have m:=ga.gJ r hr;omega
 ·obtain⟨e,g,a,_⟩:=h3;have:e=c:=Option.some.inj (a.1.symm.trans hc);subst this;have b:=(ga.cE j _ g a).ok;unfold bZ.ok at b;omega
theorem WI.len (h:WI W):W.held.length<=262144:=by
 have s:(W.held.map (·.addr)).Nodup:=by
  have g:=k6.1 h.hk;refine k6.2 λi j r w d e=>?_;have a:i<W.held.length:=by simpa using r
  have b:j<W.held.length:=by simpa using w
  refine g i j (by simpa using a) (by simpa using b) d ?_;simp only[se]at e ⊢;have s1:=(h.size_pos (zo a)).1;have s2:=(h.size_pos (zo b)).1;rw[h.apart (zo a) (zo b) (x:=W.held[i].addr) (zD _) O O O]
 have:=BP 262144 _ s λx m=>by
  obtain⟨p,u,rfl⟩:=zE.1 m;exact(h.jG u).1
 simpa using this
end Go.Ar
namespace Go.Ar
open Go.Vc (bV dB cR)
def l8 (live:List (Int×Bk))(k x:Int):Nat:=live.countP λe=>e.2.2.2.1==k&&e.1==x
def lV (ls:List Li)(k x:Int):Nat:=if 0<=k then(ls.getD k.toNat ik).os.count x else 0
def lM (bs:List Bt)(k x:Int):Nat:=(bs.map λb=>if(b.1:Int)=k then b.2.count x else 0).sum
def jA (p:Option Ph)(k x:Int):Nat:=match p with
 | some (.dC s _)=>if k = -1/\x=s*256 then 1 else 0
 | _=>0
def gG (g:Th)(k x:Int):Nat:=lV g.ls k x+lM g.bP k x+jA g.ph k x
def qJ (H:Hw)(k x:Int):Nat:=l8 H.live k x+(H.bQ.map λg=>gG g k x).sum
def Um (held:List Pc)(k x:Int):Prop:=∃p∈held,p.eI=false/\p.cls=k/\(p.addr:Int)=x
open Classical in
noncomputable def kX (held:List Pc)(k x:Int):Nat:=if Um held k x then 1 else 0
theorem ED (held:List Pc)(k x:Int):kX held k x<=1:=by unfold kX;split<;>omega
theorem AZ {held:List Pc}{k x:Int}(h:1<=kX held k x):Um held k x:=by
 unfold kX at h;split at h
 ·assumption
 ·omega
theorem Vp {held:List Pc}{k x:Int}(h:Um held k x):kX held k x=1:=by unfold kX;rw[zC h]
theorem Q6 {held:List Pc}{k x:Int}(h:¬Um held k x):kX held k x=0:=by unfold kX;rw[zB h]
theorem Em {l:List Int}(hn:l.Nodup)(x:Int):l.count x=if x∈l then 1 else 0:=by
 split
 ·rename_i h;have b:=Bp.1 hn x;have a:=Cc.2 h;omega
 ·rename_i h;exact xW.2 h
theorem BM {held held':List Pc}{cl:Int}{l:List Int}(hn:l.Nodup)(h0:∀x∈l,¬Um held cl x)(h:∀k x,Um held' k x↔Um held k x\/(k=cl/\x∈l))(k x:Int):kX held' k x=kX held k x+(if cl=k then l.count x else 0):=by
 by_cases hk:cl=k
 ·subst hk;rw[zC rfl,Em hn];by_cases hx:x∈l
  ·rw[zC hx,Q6 (h0 x hx),Vp ((h _ _).2 (.inr ⟨rfl,hx⟩))]
  ·rw[zB hx,j6];by_cases hu:Um held cl x
   ·rw[Vp hu,Vp ((h _ _).2 (.inl hu))]
   ·rw[Q6 hu,Q6 λa=>by rcases(h _ _).1 a with a|⟨_,a⟩;exact hu a;exact hx a]
 ·rw[zB hk,j6];by_cases hu:Um held k x
  ·rw[Vp hu,Vp ((h _ _).2 (.inl hu))]
  ·rw[Q6 hu,Q6 λa=>by rcases(h _ _).1 a with a|⟨a,_⟩;exact hu a;exact hk a.symm]
theorem Ig {held held':List Pc}{cl:Int}{l:List Int}(hn:l.Nodup)(h0:∀x∈l,Um held cl x)(h:∀k x,Um held' k x↔Um held k x/\¬(k=cl/\x∈l))(k x:Int):kX held k x=kX held' k x+(if cl=k then l.count x else 0):=by
 by_cases hk:cl=k
 ·subst hk;rw[zC rfl,Em hn];by_cases hx:x∈l
  ·rw[zC hx,Vp (h0 x hx),Q6 λa=>((h _ _).1 a).2 ⟨rfl,hx⟩]
  ·rw[zB hx,j6];by_cases hu:Um held cl x
   ·rw[Vp hu,Vp ((h _ _).2 ⟨hu,λa=>hx a.2⟩)]
   ·rw[Q6 hu,Q6 λa=>hu ((h _ _).1 a).1]
 ·rw[zB hk,j6];by_cases hu:Um held k x
  ·rw[Vp hu,Vp ((h _ _).2 ⟨hu,λa=>hk a.1.symm⟩)]
  ·rw[Q6 hu,Q6 λa=>hu ((h _ _).1 a).1]
theorem Dl {α:Type}(f:α->Nat):∀{l:List α} {t:Nat} {g:α} (g':α),l[t]?=some g->((l.set t g').map f).sum+f g=(l.map f).sum+f g'
 | [],t,g,g',h=>by simp at h
 | a::l,0,g,g',h=>by
  simp only[xG,Option.some.injEq]at h;subst h;simp only[List.set_cons_zero,zR,nM];omega
 | a::l,t+1,g,g',h=>by
  have:=Dl f (l:=l) (t:=t) g' (by simpa using h);simp only[rK,zR,nM];omega
theorem Am {α:Type}(f:α->Nat){l:List α}{g:α}(h:g∈l):f g<=(l.map f).sum:=by
 induction l with
 | nil=>simp at h
 | cons a l ih=>
  simp only[zR,nM];rcases zW.1 h with rfl|h
  ·omega
  ·have:=ih h;omega
theorem GQ (ls:List Li)(k:Nat)(x:Int):lV ls (k:Int) x=(ls.getD k ik).os.count x:=by
 unfold lV;rw[zC O,dE]
theorem Ew {ls:List Li}{j:Nat}(l:Li)(k:Nat)(h:j<ls.length):(ls.set j l).getD k ik=if k=j then l else ls.getD k ik:=by
 rw[zP,mU];by_cases hkj:k=j
 ·subst hkj;simp[h]
 ·rw[zB hkj,zB (Ne.symm hkj),zP]
theorem PI {ls:List Li}{j:Nat}(l:Li)(h:j<ls.length)(k x:Int):lV (ls.set j l) k x+(if(j:Int)=k then(ls.getD j ik).os.count x else 0)=lV ls k x+(if(j:Int)=k then l.os.count x else 0):=by
 by_cases hk:0<=k
 ·obtain⟨k,rfl⟩:=zc hk;rw[GQ,GQ,Ew l k h];by_cases hjk:j=k
  ·subst hjk;simp;omega
  ·have:¬(j:Int)=(k:Int):=by omega
   rw[zB (Ne.symm hjk),zB this,zB this]
 ·unfold lV;rw[zB hk,zB hk,zB O,zB O]
theorem Vu (k x:Int):lM [] k x=0:=rfl
theorem Ku (b:Bt)(bs:List Bt)(k x:Int):lM (b::bs) k x=(if(b.1:Int)=k then b.2.count x else 0)+lM bs k x:=by
 unfold lM;rw[zR,nM]
theorem DN (a b:List Bt)(k x:Int):lM (a++b) k x=lM a k x+lM b k x:=by
 unfold lM;rw[zz,List.sum_append]
theorem FC {f:bZ->Li->List Int×Li}(hf:∀c l x,(f c l).1.count x+(f c l).2.os.count x=l.os.count x){tb:List bZ}{ls:List Li}(hl:ls.length=tb.length)(k x:Int):lM (Q1 f tb ls) k x+lV (QX f tb ls) k x=lV ls k x:=by
 have key:∀n,n<=tb.length->lM ((List.range n).filterMap λk=>match tb[k]?,ls[k]? with
  | some c,some l=>if(f c l).1=[]then none else some (k,(f c l).1)
  | _,_=>none) k x=if 0<=k/\k<(n:Int)then(match tb[k.toNat]?,ls[k.toNat]? with
  | some c,some l=>(f c l).1.count x
  | _,_=>0)else 0:=by
  intro n
  induction n with
  | zero=>intro _;rw[zB O];rfl
  | succ n i=>
   intro hn;have i:=i O;rw[qm,vo,DN,i];have d:tb[n]?=some tb[n]:=cT O;have a:ls[n]?=some ls[n]:=cT O;have e:lM ([n].filterMap λk=>match tb[k]?,ls[k]? with
    | some c,some l=>if(f c l).1=[]then none else some (k,(f c l).1)
    | _,_=>none) k x=if(n:Int)=k then(f tb[n] ls[n]).1.count x else 0:=by
    rw[Cs,d,a];simp only;by_cases he:(f tb[n] ls[n]).1=[]
    ·rw[zC he,he];simp[Vu]
    ·rw[zB he];simp only[List.filterMap_nil,Ku,Vu,j6]
   rw[e];by_cases b:0<=k/\k<(n:Int)
   ·rw[zC b,zB (show ¬(n:Int)=k by omega),j6,zC (show 0<=k/\k<((n+1:Nat):Int)from⟨b.1,O⟩)]
   ·rw[zB b,zH];by_cases g:(n:Int)=k
    ·subst g;rw[zC rfl,zC (show(0:Int)<=(n:Int)/\(n:Int)<((n+1:Nat):Int)from⟨O,O⟩),dE,d,a]
    ·rw[zB g,zB O]
 have b:=key tb.length (zD _);have e:Q1 f tb ls=(List.range tb.length).filterMap λk=>match tb[k]?,ls[k]? with
  | some c,some l=>if(f c l).1=[]then none else some (k,(f c l).1)
  | _,_=>none:=rfl
 rw[e,b];by_cases hk:0<=k
 ·obtain⟨k,rfl⟩:=zc hk;rw[GQ,GQ,dE];by_cases hkl:k<tb.length
  ·have d:tb[k]?=some tb[k]:=cT hkl;have a:ls[k]?=some ls[k]:=cT O;rw[zC ⟨O,O⟩,d,a];simp only;have:(QX f tb ls).getD k ik=(f tb[k] ls[k]).2:=by
    unfold QX;rw[zP,Ak,d,a];rfl
   rw[this,zP,a];exact hf _ _ _
  ·rw[zB O,zH];have b:(QX f tb ls).getD k ik=ik:=by
    unfold QX;rw[zP,zV (by rw[List.length_zipWith];omega)];rfl
   have g:ls.getD k ik=ik:=by rw[zP,zV O];rfl
   rw[b,g]
 ·rw[zB O,zH];unfold lV;rw[zB hk,zB hk]
theorem B9 (m:Nat)(l:Li)(x:Int):(gp m l).1.count x+(gp m l).2.os.count x=l.os.count x:=by
 show(l.os.take m).count x+(l.os.drop m).count x=_;rw[←vd,nU]
theorem PW (c:bZ)(l:Li)(x:Int):(KE c l).1.count x+(KE c l).2.os.count x=l.os.count x:=B9 _ l x
theorem RZ (c:bZ)(l:Li)(x:Int):(ZH c l).1.count x+(ZH c l).2.os.count x=l.os.count x:=B9 _ l x
theorem SE (c:bZ)(y:Int)(l:Li)(hl:l.os.length<=255)(x:Int):(dJ c y l).1.count x+(dJ c y l).2.os.count x=l.os.count x + [y].count x:=by
 have a:(dZ [y] l).os=l.os++[y]:=by
  unfold dZ;rw[zB aE]
 unfold dJ;rw[zB O];split
 ·rw[a,List.count_nil,zH,vd]
 ·rw[B9];have:(mF c (dZ [y] l)).os=(dZ [y] l).os:=by unfold mF;split<;>rfl
  rw[this,a,vd]
theorem F9 {c:bZ}{l l':Li}{y:Int}(h:Q0 c l=(some y,l'))(x:Int):l.os.count x=l'.os.count x + [y].count x:=by
 unfold Q0 at h;split at h
 ·simp at h
 ·rename_i z hz;cases h;have:l.os=l.os.dropLast++[y]:=by
   obtain⟨b,a⟩:=List.getLast?_eq_some_iff.1 hz;rw[a];simp
  conv=>lhs;rw[this]
  rw[vd]
theorem Mh {c:bZ}{l l':Li}(h:Q0 c l=(none,l')):l.os=[]/\l'.os=[]:=by
 unfold Q0 at h;split at h
 ·rename_i hz;have:l.os=[]:=by simpa using hz
  cases h;refine⟨this,?_⟩;split<;>exact this
 ·simp at h
theorem BC {live:List (Int×Bk)}{x:Int}(b:Bk)(h:bV live x=none)(k y:Int):l8 (dB live x b) k y=l8 live k y+(if b.2.2.1=k then[x].count y else 0):=by
 have a:live.any (λe=>e.1==x)=false:=by
  rw[mB];intro e he hx;unfold bV at h;rw[rO,nS]at h;exact h e he hx
 unfold dB;rw[a,zB aA];unfold l8;rw[List.countP_append]
 congr 1
 rw[vp,List.countP_nil,zH];by_cases h1:b.2.2.1=k
 ·by_cases h2:x=y
  ·subst h2;simp[h1]
  ·simp[h1,h2]
 ·simp[h1]
theorem Gw {live:List (Int×Bk)}{x:Int}{b:Bk}(h:bV live x=none){e:Int×Bk}:e∈dB live x b↔e∈live\/e=(x,b):=by
 have a:live.any (λe=>e.1==x)=false:=by
  rw[mB];intro e he hx;unfold bV at h;rw[rO,nS]at h;exact h e he hx
 unfold dB;rw[a,zB aA,zK,zN]
theorem GD {live:List (Int×Bk)}{x:Int}{e:Int×Bk}:e∈cR live x↔e∈live/\e.1≠x:=by
 unfold cR;rw[zI];simp
theorem Aw:∀{live:List (Int×Bk)} {x:Int} {b:Bk},(live.map (·.1)).Nodup->bV live x=some b->∀k y,l8 live k y=l8 (cR live x) k y+(if b.2.2.1=k then[x].count y else 0)
 | [],x,b,_,h,_,_=>by simp[bV]at h
 | e::l,x,b,hn,h,k,y=>by
  rw[zR,zt]at hn;by_cases he:e.1=x
  ·have hb:e.2=b:=by
    unfold bV at h;rw[List.find?_cons_of_pos (by simpa using he)]at h;simpa using h
   have hd:cR (e::l) x=l:=by
    unfold cR;rw[ua (by simpa using he),pH];intro a ha;have:a.1≠x:=λi=>hn.1 (zE.2 ⟨a,ha,i.trans he.symm⟩);simpa using this
   rw[hd];unfold l8;rw[vp,hb,he]
   congr 1
   by_cases h1:b.2.2.1=k
   ·by_cases h2:x=y
    ·subst h2;simp[h1]
    ·simp[h1,h2]
   ·simp[h1]
  ·have g:bV l x=some b:=by
    unfold bV at h ⊢
    rwa [List.find?_cons_of_neg (by simpa using he)]at h
   have d:=Aw hn.2 g k y;have hd:cR (e::l) x=e::cR l x:=by
    unfold cR;rw[uO (by simpa using he)]
   rw[hd];unfold l8 at d ⊢;rw[vp,vp,d];omega
theorem EI {live:List (Int×Bk)}{e:Int×Bk}(h:e∈live):1<=l8 live e.2.2.2.1 e.1:=by
 unfold l8;exact List.countP_pos_iff.2 ⟨e,h,by simp⟩
structure jo (s s':Sp):Prop where
 l:s'.st.length=s.st.length
 z:∀p,gf s'.st p=0↔gf s.st p=0
 w:s'.wd=s.wd
def im (m:Nat)(g:Th):Prop:=match g.ph with
 | none=>g.bP=[]
 | some (.take k)=>g.bP=[]/\k<m
 | some (.cI k w)=>g.bP=[]/\k<m/\(g.li k).os=[]/\1<=w/\w<=32
 | some (.cJ k w)=>g.bP=[]/\k<m/\(g.li k).os=[]/\1<=w/\w<=32
 | some (.grow k w)=>g.bP=[]/\k<m/\(g.li k).os=[]/\1<=w/\w<=32
 | some .fill=>∃k x xs,g.bP=[(k,x::xs)]/\k<m/\(g.li k).os=[]/\xs.length<=128
 | some (.eD n)=>g.bP=[]/\1<=n/\n<=64
 | some (.find x)=>g.bP=[]/\iE x
 | some (.put k x)=>g.bP=[(k,[x])]/\k<m
 | some .back=>g.bP≠[]
 | some (.dC _ _)=>g.bP=[]
 | some .drain=>g.bP=[]
structure sv (m:Nat) (g:Th):Prop where
 ll:g.ls.length=m
 lo:∀l∈g.ls,fJ l/\l.os.length<=128
 hb:∀b∈g.bP,b.1<m/\b.2≠[]/\b.2.length<=256
 hl:g.bP.length<=41
 ph:im m g
def Lv (held:List Pc)(e:Int×Bk):Prop:=e.2.1=e.1/\∃p∈held,p.eI=false/\p.cls=e.2.2.2.1/\(p.addr:Int)=e.1/\e.2.2.1=(p.size:Int)/\e.2.2.2.2=(p.k:Int)
def Gv (held:List Pc)(s a:Int):Prop:=∃p∈held,p.eI=false/\p.cls = -1/\(p.addr:Int)=s*256/\a=(p.k:Int)
structure HI (H:Hw) (held:List Pc) (s0:Sp):Prop where
 wi:WI ⟨H.tb,s0,H.bX,held⟩
 m5:jo s0 H.sp
 cn:∀k x,qJ H k x=kX held k x
 lk:(H.live.map (·.1)).Nodup
 lv:∀e∈H.live,Lv held e
 gv:∀g∈H.bQ,∀s a,g.ph=some (.dC s a)->Gv held s a
 th:∀g∈H.bQ,sv H.tb.length g
 ok:∀c∈H.tb,c.ok
 a1:1<=H.bX.length
 sl:H.sp.st.length=H.cf.aF
variable {H:Hw}{held:List Pc}{s0:Sp}{t k:Nat}{g:Th}{A:AR}
theorem jo.refl (s:Sp):jo s s:=⟨rfl,λ_=>Iff.rfl,rfl⟩
theorem HI.apart (h:HI H held s0){p q:Pc}(hp:p∈held)(hq:q∈held){x:Nat}(p1:p.addr<=x)(p2:x<p.addr+p.size)(q1:q.addr<=x)(q2:x<q.addr+q.size):p=q:=h.wi.apart hp hq p1 p2 q1 q2
theorem WI.same {W:Wd}(h:WI W){p q:Pc}(hp:p∈W.held)(hq:q∈W.held)(e:p.addr=q.addr):p=q:=by
 have b:=(h.size_pos hp).1;have a:=(h.size_pos hq).1;exact h.apart hp hq (x:=p.addr) (zD _) O O O
theorem WI.um {W:Wd}(h:WI W){p:Pc}(hp:p∈W.held){k x:Int}(hu:Um W.held k x)(e:(p.addr:Int)=x):p.eI=false/\p.cls=k:=by
 obtain⟨q,b,d,a,g⟩:=hu;obtain rfl:=h.same hp b O;exact⟨d,a⟩
theorem HI.m6 (h:HI H held s0){e:Int×Bk}(he:e∈H.live):Um held e.2.2.2.1 e.1:=by
 obtain⟨_,p,d,g,a,b,_⟩:=h.lv e he;exact⟨p,d,g,a,b⟩
theorem HI.oJ (h:HI H held s0){g:Th}(hg:g∈H.bQ)(k x:Int):gG g k x<=kX held k x:=by
 rw[←h.cn];unfold qJ;have:=Am (λg=>gG g k x) hg;omega
theorem HI.qt (h:HI H held s0){g:Th}(hg:g∈H.bQ){k x:Int}(hc:1<=gG g k x):Um held k x:=AZ (zh hc (h.oJ hg k x))
theorem HI.lT (h:HI H held s0){g:Th}(hg:g∈H.bQ){k x:Int}(hc:1<=gG g k x):bV H.live x=none:=by
 cases hm:bV H.live x with
 | none=>rfl
 | some b=>
  have e:=KO hm;have s:=h.qt hg hc;obtain⟨q,p,w,j,m⟩:=h.m6 e;have r:k=b.2.2.1:=by
   have:=(h.wi.um (W:=⟨H.tb,s0,H.bX,held⟩) p s m).2;exact this.symm.trans j
  have u:=EI e;have a:=h.cn k x;have i:=ED held k x;have d:=Am (λg=>gG g k x) hg;simp only at u d;unfold qJ at a;rw[r]at a i d hc;omega
theorem HI.sS (h:HI H held s0){x:Int}(hn:∀k,¬Um held k x):bV H.live x=none:=by
 cases hm:bV H.live x with
 | none=>rfl
 | some b=>exact(hn _ (h.m6 (KO hm))).elim
theorem HI.fA (h:HI H held s0)(hg:H.bQ[t]?=some g){g':Th}{live':List (Int×Bk)}{s0' sp':Sp}{ars':List AR}{held':List Pc}(wi:WI ⟨H.tb,s0',ars',held'⟩)(m5:jo s0' sp')(hsl:sp'.st.length=H.sp.st.length)(hl:ars'.length=H.bX.length)
 (sub:∀p∈held',p.eI=false->p∈held\/∀k,¬Um held k (p.addr:Int))
 (cn:∀k x,l8 live' k x+gG g' k x+kX held k x=l8 H.live k x+gG g k x+kX held' k x)
 (lk:(live'.map (·.1)).Nodup) (lv:∀e∈live',e∈H.live\/Lv held' e) (gv:∀s a,g'.ph=some (.dC s a)->Gv held' s a) (th:sv H.tb.length g') :
 HI {H with live:=live',sp:=sp',bX:=ars',bQ:=H.bQ.set t g'} held' s0':=by
 have u:∀k x,qJ {H with live:=live',sp:=sp',bX:=ars',bQ:=H.bQ.set t g'} k x=kX held' k x:=λk x=>by
  have b:=h.cn k x;have r:=cn k x;have d:=Dl (λg=>gG g k x) g' hg;unfold qJ at b ⊢;simp only at d ⊢;omega
 have G:=(cW.1 hg).1;have bS:∀p∈held,p.eI=false->Um held' p.cls (p.addr:Int)->p∈held':=λp m E ⟨q,A,b,r,d⟩=>by
  rcases sub q A b with hs|hs
  ·have:q=p:=h.wi.same (W:=⟨H.tb,s0,H.bX,held⟩) hs m O;rw[←this];exact A
  ·exact(hs p.cls ⟨p,m,E,rfl,d.symm⟩).elim
 refine⟨wi,m5,u,lk,λe B=>?_,λw i s a m=>?_,λw i=>?_,h.ok,by simp only;rw[hl];exact h.a1,hsl.trans h.sl⟩
 ·rcases lv e B with he'|he'
  ·obtain⟨D,p,m,b,r,d,z⟩:=h.lv e he';refine⟨D,p,bS p m b ?_,b,r,d,z⟩;rw[r,d];apply AZ;rw[←u];have:1<=l8 live' e.2.2.2.1 e.1:=EI B;unfold qJ;simp only;omega
  ·exact he'
 ·rcases List.mem_iff_getElem?.1 i with⟨j,hj⟩;rcases KV hj with⟨rfl,rfl,_⟩|⟨hne,hj'⟩
  ·exact gv s a m
  ·obtain⟨p,y,b,r,d,z⟩:=h.gv w (zG hj') s a m;refine⟨p,bS p y b ?_,b,r,d,z⟩;rw[r,d];apply AZ;rw[←u];have C:=Am (λg=>gG g (-1) (s*256)) i;have F:1<=gG w (-1) (s*256):=by unfold gG;rw[m];simp[jA]
   unfold qJ;simp only at C ⊢;omega
 ·rcases List.mem_iff_getElem?.1 i with⟨j,hj⟩;rcases KV hj with⟨rfl,rfl,_⟩|⟨hne,hj'⟩
  ·exact th
  ·exact h.th w (zG hj')
theorem HI.ke (h:HI H held s0)(hg:H.bQ[t]?=some g){g':Th}{live':List (Int×Bk)}(cn:∀k x,l8 live' k x+gG g' k x=l8 H.live k x+gG g k x)(lk:(live'.map (·.1)).Nodup)(lv:∀e∈live',e∈H.live\/Lv held e)
 (gv:∀s a,g'.ph=some (.dC s a)->Gv held s a) (th:sv H.tb.length g'):HI {H with live:=live',bQ:=H.bQ.set t g'} held s0:=
 h.fA hg h.wi h.m5 rfl rfl (λp b _=>.inl b) (λk x=>by have:=cn k x;omega) lk lv gv th
theorem Mu {A:AR}{x:Int}:GX A x=true↔0<=x/\A.f x.toNat≠0:=by
 unfold GX AR.f gf;simp
theorem WI.owner {W:Wd}(h:WI W){p:Pc}(hp:p∈W.held){x:Nat}(h1:p.addr<=x)(h2:x<p.addr+p.size):XN W.bX (x:Int)=(p.k:Int):=by
 obtain⟨A,b,_⟩:=h.hf p hp;have g:=h.qI hp b h1 h2;have a:=(cW.1 b).1;have own:∀(j:Nat) (B:AR),W.bX[j]?=some B->(GX B ((x:Int)/256)=true↔j=p.k):=λj B d=>by
  have e:((x:Int)/256).toNat=x/256:=by omega
  rw[Mu,e];constructor
  ·rintro⟨_,hf⟩;exact h.one (x/256) j p.k B A d b hf O
  ·rintro rfl;rw[b]at d;cases d;exact⟨O,O⟩
 unfold XN;rw[zB O];have hf:W.bX.findIdx? (λA=>GX A ((x:Int)/256))=some p.k:=by
  rw[ng];refine⟨a,(own p.k _ (cT a)).2 rfl,λj i=>?_⟩;have:=own j W.bX[j] (cT O);intro hx;have:=this.1 hx;omega
 rw[hf]
theorem HI.owner (h:HI H held s0){p:Pc}(hp:p∈held){x:Nat}(h1:p.addr<=x)(h2:x<p.addr+p.size):XN H.bX (x:Int)=(p.k:Int):=h.wi.owner (W:=⟨H.tb,s0,H.bX,held⟩) hp h1 h2
theorem HI.oC (h:HI H held s0){p:Pc}(hp:p∈held):XN H.bX (p.addr:Int)=(p.k:Int):=h.owner hp (zD _) (by have:=(h.wi.size_pos (W:=⟨H.tb,s0,H.bX,held⟩) hp).1;omega)
theorem HI.i63 (h:HI H held s0){k x:Int}(hu:Um held k x):iE x/\0<=x/\0<=XN H.bX x:=by
 obtain⟨p,a,_,_,rfl⟩:=hu;have:=(h.wi.jG (W:=⟨H.tb,s0,H.bX,held⟩) a).1;refine⟨by unfold iE;omega,O,?_⟩;rw[h.oC a];omega
end Go.Ar
namespace Go.Ar
open Go.Vc (bV dB cR)
open Go.Bu (Zb)
structure KS (s s':Sp):Prop where
 l:s'.st.length=s.st.length
 k:∀p,gf s.st p≠0->gf s'.st p≠0/\∀w,w/32=p->s'.wd w=s.wd w
theorem KS.refl (s:Sp):KS s s:=⟨rfl,λp a=>⟨a,λ_ _=>rfl⟩⟩
theorem KS.trans {a b c:Sp}(h:KS a b)(k:KS b c):KS a c:=⟨k.l.trans h.l,λp d=>⟨(k.k p (h.k p d).1).1,λw e=>((k.k p (h.k p d).1).2 w e).trans ((h.k p d).2 w e)⟩⟩
variable {s s' sp sp' s0 s0':Sp}{A B:AR}{k:Nat}
theorem jo.mz (h:jo s s'):s'.st.map (λx=>decide (x=0))=s.st.map λx=>decide (x=0):=by
 refine zp λi=>?_;rw[za,za];have a:=h.z i;unfold gf at a;rw[zP,zP]at a;by_cases hi:i<s.st.length
 ·have b:i<s'.st.length:=by rw[h.l];exact hi
  rw[cT hi,cT b]at a ⊢;simp only[pF]at a;simp[a]
 ·have d:=h.l;rw[zV O,zV O]
theorem Lw {l l':List Nat}(h:l'.map (λx=>decide (x=0))=l.map λx=>decide (x=0))(a m:Nat)(f:Bool->Bool):((l'.drop a).take m).any (λx=>f (decide (x=0)))=((l.drop a).take m).any λx=>f (decide (x=0)):=by
 have e:∀l:List Nat,((l.drop a).take m).any (λx=>f (decide (x=0)))=(((l.map λx=>decide (x=0)).drop a).take m).any f:=λl=>by
  rw[←List.map_drop,←List.map_take,List.any_map];rfl
 rw[e,e,h]
theorem jo.eZ (h:jo s s')(a m:Int):eZ s' a m=eZ s a m:=by
 unfold Go.Ar.eZ;rw[h.l];have:=Lw h.mz a.toNat m.toNat (λb=>!b);have e:∀l:List Nat,l.any (λx=>x != 0)=l.any λx=>!decide (x=0):=λl=>by
  refine congrArg l.any (funext λx=>?_);cases x<;>rfl
 rw[e,e,this]
theorem jo.set (h:jo s s'){a m v:Nat}(hl:a+m<=s.st.length):jo (s.set a m v) (s'.set a m v):=by
 refine⟨by simp[Sp.set,KB,h.l],λp=>?_,?_⟩
 ·show gf (gg s'.st a (a+m) v) p=0↔gf (gg s.st a (a+m) v) p=0;rw[ud (by rw[h.l];exact hl),ud hl];split
  ·exact Iff.rfl
  ·exact h.z p
 ·show(λw=>if a*32<=w/\w<(a+m)*32 then 0 else s'.wd w)=_
  rw[h.w];rfl
theorem I0 {n:Nat}{a m:Int}(h:Zb n a m=true):a.toNat+m.toNat<=n:=by
 by_cases h0:0<=a/\0<=m
 ·obtain⟨a,rfl⟩:=zc h0.1;obtain⟨m,rfl⟩:=zc h0.2;rw[dE,dE];exact(Uh.1 h).2
 ·exfalso;unfold Zb at h;simp at h;omega
theorem jo.fS (h:jo s s')(a m:Int):jo (fS s a m) (fS s' a m):=by
 unfold Go.Ar.fS;rw[h.eZ];split
 ·rename_i h0;refine h.set ?_;unfold Go.Ar.eZ at h0;split at h0
  ·rename_i hr;exact I0 hr
  ·simp at h0
 ·exact h
theorem C8 (s:Sp)(a m:Nat):KS s (fS s (a:Int) (m:Int)):=by
 by_cases h:eZ s (a:Int) (m:Int)=0
 ·have r:=Cb h;obtain⟨j,g,i,_⟩:=Eo h;refine⟨j,λp e=>?_⟩;have b:¬(a<=p/\p<a+m):=λd=>e (r.2.2 p d.1 d.2);exact⟨by rw[g,zB b];exact e,λw u=>i w O⟩
 ·unfold fS;rw[zB h];exact KS.refl s
theorem jo.cY (h:jo s s')(size:Nat):cY s' size=cY s size:=by
 unfold Go.Ar.cY;rw[h.l]
 congr 1
 funext x
 rw[h.eZ]
theorem jo.cZ (h:jo s s')(A:AR)(m a no:Nat):(cZ A s' m a no).1=(cZ A s m a no).1/\(cZ A s' m a no).2.1=(cZ A s m a no).2.1/\jo (cZ A s m a no).2.2 (cZ A s' m a no).2.2/\KS s' (cZ A s' m a no).2.2:=by
 unfold Go.Ar.cZ;split
 ·exact⟨rfl,rfl,h,KS.refl _⟩
 ·unfold UE;rw[h.cY];cases hg:Go.Ar.cY s (QR (max m a))with
  | none=>exact⟨rfl,rfl,h,KS.refl _⟩
  | some x=>
   simp only;split
   ·exact⟨rfl,rfl,h.fS _ _,C8 _ _ _⟩
   ·exact⟨rfl,rfl,h.fS _ _,C8 _ _ _⟩
theorem jo.cL (h:jo s s')(A:AR)(k:Int):(cL A s' k).1=(cL A s k).1/\KH A s' k=KH A s k/\jo (cL A s k).2 (cL A s' k).2/\KS s' (cL A s' k).2:=by
 unfold Go.Ar.cL KH;split
 ·split
  ·rename_i c ss _ _;obtain⟨e,b,d,a⟩:=h.cZ A c.aF 1 (k.toNat+1);cases e1:Go.Ar.cZ A s c.aF 1 (k.toNat+1)with
   | mk o1 r1=>cases e2:Go.Ar.cZ A s' c.aF 1 (k.toNat+1)with
    | mk o2 r2=>
     obtain⟨i,g⟩:=r1;obtain⟨m,j⟩:=r2;rw[e1,e2]at e b d;rw[e2]at a;simp only at e b d a;subst e;subst b;cases o2<;>exact⟨rfl,rfl,d,a⟩
  ·exact⟨rfl,rfl,h,KS.refl _⟩
 ·exact⟨rfl,rfl,h,KS.refl _⟩
theorem jo.cA (h:jo s s')(A:AR)(m a:Int):(cA A s' m a).1=(cA A s m a).1/\Qm A s' m a=Qm A s m a/\ZY A s' m a=ZY A s m a/\jo (cA A s m a).2 (cA A s' m a).2/\KS s' (cA A s' m a).2:=by
 unfold Go.Ar.cA Qm ZY;split
 ·obtain⟨g,d,e,b⟩:=h.cZ A m.toNat a.toNat 41;cases e1:Go.Ar.cZ A s m.toNat a.toNat 41 with
  | mk o1 r1=>cases e2:Go.Ar.cZ A s' m.toNat a.toNat 41 with
   | mk o2 r2=>
    obtain⟨j,i⟩:=r1;obtain⟨r,p⟩:=r2;rw[e1,e2]at g d e;rw[e2]at b;simp only at g d e b;subst g;subst d;cases o2<;>exact⟨rfl,rfl,rfl,e,b⟩
 ·exact⟨rfl,rfl,rfl,h,KS.refl _⟩
variable {W:Wd}
theorem Lj (h:WI W){cl:Int}{l:List Int}(ho:jf W.held k cl l=true)(c x:Int):Um (W.held.filter λp=>!dW k cl l p) c x↔Um W.held c x/\¬(c=cl/\x∈l):=by
 constructor
 ·rintro⟨p,hp,h1,h2,h3⟩;obtain⟨a,d⟩:=zI.1 hp;refine⟨⟨p,a,h1,h2,h3⟩,?_⟩;rintro⟨rfl,b⟩;obtain⟨q,j,e⟩:=(Kv.1 ho).1 x b;obtain⟨m,u,s,r⟩:=KA.1 e;obtain rfl:=h.same (p:=p) (q:=q) a j O;have:dW k c l p=true:=ZV.2 ⟨m,h2,by rw[h3];exact b⟩;rw[this]at d;cases d
 ·rintro⟨⟨p,hp,h1,h2,h3⟩,d⟩;refine⟨p,zI.2 ⟨hp,?_⟩,h1,h2,h3⟩;have:dW k cl l p=false:=nB.2 λb=>by
   obtain⟨_,g,i⟩:=ZV.1 b;exact d ⟨h2.symm.trans g,by rw[←h3];exact i⟩
  rw[this];rfl
theorem OS {held:List Pc}{cl:Int}{l:List Int}(ho:jf held k cl l=true):∀x∈l,Um held cl x:=λx e=>by
 obtain⟨q,b,a⟩:=(Kv.1 ho).1 x e;obtain⟨j,i,g,d⟩:=KA.1 a;exact⟨q,b,d,i,g⟩
theorem S2 (h:WI W){cl:Int}{l:List Int}(ho:jf W.held k cl l=true)(c x:Int):Um (HN W.held k cl l true) c x↔Um W.held c x/\¬(c=cl/\x∈l):=by
 constructor
 ·rintro⟨p,hp,h1,h2,h3⟩;obtain⟨q,b,rfl⟩:=QC.1 hp;by_cases hof:dW k cl l q=true
  ·rw[zC hof]at h1;cases h1
  ·rw[zB hof]at h1 h2 h3;refine⟨⟨q,b,h1,h2,h3⟩,?_⟩;rintro⟨rfl,hx⟩;obtain⟨r,i,a⟩:=(Kv.1 ho).1 x hx;obtain⟨g,s,m,j⟩:=KA.1 a;obtain rfl:=h.same b i O;exact hof (ZV.2 ⟨g,h2,by rw[h3];exact hx⟩)
 ·rintro⟨⟨p,hp,h1,h2,h3⟩,hn⟩;refine⟨p,QC.2 ⟨p,hp,?_⟩,h1,h2,h3⟩;rw[zB];intro hx;obtain⟨_,d,e⟩:=ZV.1 hx;exact hn ⟨h2.symm.trans d,by rw[←h3];exact e⟩
theorem I6 {held:List Pc}{cl:Int}{l:List Int}:∀p∈HN held k cl l true,p.eI=false->p∈held:=λp d a=>by
 obtain⟨q,b,rfl⟩:=QC.1 d;by_cases hof:dW k cl l q=true
 ·rw[zC hof]at a;cases a
 ·rw[zB hof];exact b
theorem Jf (h:WI W)(hk:W.bX[k]?=some A){j:Nat}:(∀x∈Yp A (j:Int),∀c,¬Um W.held c x)/\(Yp A (j:Int)).Nodup/\(∀c x,Um (HN W.held k j (Yp A (j:Int)) false) c x↔Um W.held c x\/(c=j/\x∈Yp A (j:Int))) ∧
 (∀p∈HN W.held k j (Yp A (j:Int)) false,p.eI=false->p∈W.held\/∀c,¬Um W.held c (p.addr:Int)):=by
 obtain⟨o,e1,e2,G,M,K⟩:=Eh (h.ga k A hk) (j:Int);rw[dE]at e2;have y:∀x∈Yp A (j:Int),∃q∈W.held,q.k=k/\q.cls=j/\(q.addr:Int)=x/\q.eI=true:=λx d=>by
  have s:=e2 x d;obtain⟨t,ht,e⟩:=s;have r:j<A.tb.length:=by rw[←(h.ga k A hk).lt];exact(cW.1 ht).1
  obtain⟨c,C,J,z,E⟩:=(h.ga k A hk).cl r;have u:fL A j x:=(Vd z).2 ((h.ga k A hk).l6 j c C t z ht x e);obtain⟨q,a,m,g,b⟩:=h.ht k A hk j x u;obtain⟨_,_,_,_,B⟩:=h.cls a g (by rw[m];exact hk);exact⟨q,a,m,g,b,B.2 (by rw[b];exact⟨t,ht,e⟩)⟩
 have new:∀x∈Yp A (j:Int),∀c,¬Um W.held c x:=λx d c H=>by
  obtain⟨q,a,_,_,b,w⟩:=y x d;have:=(h.um a H b).1;rw[w]at this;cases this
 refine⟨new,G,λc x=>⟨?_,?_⟩,λp i L=>?_⟩
 ·rintro⟨p,i,h1,h2,h3⟩;obtain⟨q,a,rfl⟩:=QC.1 i;by_cases hof:dW k (j:Int) (Yp A (j:Int)) q=true
  ·rw[zC hof]at h2 h3;obtain⟨_,D,F⟩:=ZV.1 hof;exact .inr ⟨h2.symm.trans D,by rw[←h3];exact F⟩
  ·rw[zB hof]at h1 h2 h3;exact .inl ⟨q,a,h1,h2,h3⟩
 ·rintro(⟨p,i,h1,h2,h3⟩|⟨rfl,d⟩)
  ·refine⟨p,QC.2 ⟨p,i,?_⟩,h1,h2,h3⟩;split
   ·rw[←h1]
   ·rfl
  ·obtain⟨q,a,m,g,b,w⟩:=y x d;refine⟨{q with eI:=false},QC.2 ⟨q,a,?_⟩,rfl,g,b⟩;rw[zC (ZV.2 ⟨m,g,by rw[b];exact d⟩)]
 ·obtain⟨q,a,rfl⟩:=QC.1 i;by_cases hof:dW k (j:Int) (Yp A (j:Int)) q=true
  ·rw[zC hof];exact .inr (new _ (ZV.1 hof).2.2)
  ·rw[zB hof];exact .inl a
theorem Cj {tb:List bZ}{bX:List AR}{sp:Sp}{held new:List Pc}(h:WI ⟨tb,sp,bX,held++new⟩):∀p∈new,∀c,¬Um held c (p.addr:Int):=by
 rintro p b c ⟨q,d,_,_,g⟩;have e:=h.same (p:=p) (q:=q) (nI _ b) (ko _ d) O;have a:=h.hk;simp only[zz]at a;rw[nJ]at a;exact a.2.2 q.key (zE.2 ⟨q,d,rfl⟩) p.key (zE.2 ⟨p,b,rfl⟩) (by rw[e])
theorem FH {held new:List Pc}{cl:Int}{l:List Int}(h1:∀p∈new,p.eI=false/\p.cls=cl/\(p.addr:Int)∈l)(h2:∀x∈l,∃p∈new,(p.addr:Int)=x)(c x:Int):Um (held++new) c x↔Um held c x\/(c=cl/\x∈l):=by
 constructor
 ·rintro⟨p,b,a1,a2,a3⟩;rcases zK.1 b with b|b
  ·exact .inl ⟨p,b,a1,a2,a3⟩
  ·obtain⟨_,d,g⟩:=h1 p b;exact .inr ⟨a2.symm.trans d,by rw[←a3];exact g⟩
 ·rintro(⟨p,b,a⟩|⟨rfl,hx⟩)
  ·exact⟨p,ko _ b,a⟩
  ·obtain⟨p,b,e⟩:=h2 x hx;exact⟨p,nI _ b,(h1 p b).1,(h1 p b).2.1,e⟩
theorem Iu {tb:List bZ}{bX:List AR}{sp:Sp}{held new:List Pc}(h:WI ⟨tb,sp,bX,held++new⟩):∀p∈held++new,p.eI=false->p∈held\/∀c,¬Um held c (p.addr:Int):=λp a _=>by
 rcases zK.1 a with a|a
 ·exact .inl a
 ·exact .inr (Cj h p a)
theorem KN {ss:List cF}:∀{i:Nat},Y9 ss i=none->∀k,k<i->∀s,ss[k]?=some s->¬s.many<s.tk.length
 | 0,_,k,hk,_,_=>by omega
 | i+1,h,k,hk,s,hs=>by
  unfold Y9 at h;by_cases hki:k=i
  ·subst hki;rw[hs]at h;simp only at h;intro hlt;rw[zC hlt]at h;split at h
   ·split at h
    ·split at h<;>cases h
    ·cases h
   ·cases h
  ·cases hi:ss[i]? with
   | none=>
    rw[hi]at h;exact KN h k O s hs
   | some x=>
    rw[hi]at h;simp only at h;split at h
    ·split at h
     ·split at h
      ·split at h<;>cases h
      ·cases h
     ·exact KN (by assumption) k O s hs
    ·exact KN h k O s hs
theorem RS (h:GA A)(hw:Ow A sp){j:Nat}(hE:KH A sp (j:Int)=0){w:Nat}(h1:1<=w):Ya (cL A sp (j:Int)).1 (j:Int) (w:Int)≠[]:=by
 rcases G8 h hw (j:Int)with⟨_,hn,_⟩|⟨j',c,ss,x,A1,sp1,hj,hk,hk1,_,e,hst,r1,r2,r3,_,hd,hS⟩
 ·exact(hn hE).elim
 ·obtain rfl:j=j':=by omega
  have a:Cl (cL A sp (j:Int)).1 j c (ie c ss x):=by
   rw[e];have m:Cl (dQ A1 x c.aF (j+1)) j c ss:=hk1;exact UM m _
  have B:=hS.ga.cE j c _ a;have b:(⟨x,List.replicate c.n false⟩:cF)∈ie c ss x:=Vk.2 (.inl rfl);have g:(cL A sp (j:Int)).1.ck (j:Int)=true:=U6.2 ⟨j,rfl,a.lt⟩;unfold Ya Qt Vm;rw[g,zC rfl,zB (show ¬((w:Int)<0) by omega),zC rfl,dE,dE,a.1,a.2];simp only;obtain⟨w,rfl⟩:∃v,w=v+1:=⟨w-1,O⟩;cases ho:iW c (ie c ss x)with
  | some r=>
   obtain⟨y,D⟩:=r;rw[Hq ho];simp
  | none=>
   exfalso;unfold iW iH at ho;obtain⟨l,z⟩:=zQ b;have u:=(cW.1 z).1;have p:(⟨x,List.replicate c.n false⟩:cF).many<(⟨x,List.replicate c.n false⟩:cF).tk.length:=by
    have:=B.ok.rZ;simp[cF.many,yI];omega
   cases hb:Y9 (ie c ss x) (ie c ss x).length with
   | none=>exact KN hb l u _ z p
   | some i=>
    rw[hb]at ho;obtain⟨_,s,C,d⟩:=QK hb;obtain⟨r,E,_⟩:=Gj d;simp only[C,E]at ho;cases ho
end Go.Ar
namespace Go.Ar
open Go.Vc (bV dB cR)
variable {H:Hw}{held:List Pc}{s0:Sp}{t k:Nat}{g:Th}{A:AR}{c:bZ}
theorem ZW {p:Ph}{H1:Hw}{g1:Th}{nx:Option Ph}{a e:Int}(ht:t<H.bQ.length)(hs:Wt H t p=({H1 with bQ:=H.bQ.set t g1},nx,a,e)):Qu H t p = {H1 with bQ:=H.bQ.set t {g1 with ph:=nx}}:=by
 unfold Qu;rw[hs];show Hw.dT _ t _=_;rw[Zr (g:=g1) (by simp[ht])];simp only[nE]
structure iy (H:Hw) (t:Nat) (p:Ph):Prop where
 ok:uz H t p
 hi:∃held s0,HI (Qu H t p) held s0
 ks:KS H.sp (Qu H t p).sp
theorem iy.mk' {p:Ph}(hg:H.bQ[t]?=some g)(hl:g.bP.length<=41)(h1:ui H t p){H':Hw}{held':List Pc}{s0':Sp}(e:Qu H t p=H')(h2:HI H' held' s0')(h3:KS H.sp H'.sp):iy H t p:=
 ⟨⟨h1,λb a=>by rw[hg]at a;cases a;omega⟩,⟨held',s0',by rw[e];exact h2⟩,by rw[e];exact h3⟩
def Rq (tb:List bZ)(g:Th):Ph->Int->Int->Prop
 | .take k,cl,sz=>cl=k/\∃c,tb[k]?=some c/\sz=c.size
 | .cI k _,cl,sz=>cl=k/\∃c,tb[k]?=some c/\sz=c.size
 | .cJ k _,cl,sz=>cl=k/\∃c,tb[k]?=some c/\sz=c.size
 | .grow k _,cl,sz=>cl=k/\∃c,tb[k]?=some c/\sz=c.size
 | .fill,cl,sz=>∃k xs r c,g.bP=(k,xs)::r/\cl=k/\tb[k]?=some c/\sz=c.size
 | .eD m,cl,sz=>cl = -1/\sz=((m*256:Nat):Int)
 | _,_,_=>False
def oI (H:Hw)(t:Nat):Ph->Nat
 | .take _=>5
 | .cI _ _=>4
 | .cJ k w=>if Ya (H.eB t) (k:Int) (w:Int)=[]then 3 else 1
 | .grow _ _=>2
 | _=>0
def sM (H:Hw)(t:Nat)(p:Ph)(cl sz:Int):Prop:=
 (∃p' g',(Wt H t p).2.1=some p'/\(Qu H t p).live=H.live/\(Qu H t p).bQ[t]?=some g'/\Rq H.tb g' p' cl sz/\oI (Qu H t p) t p'<oI H t p) ∨
 ((Wt H t p).2.1=none/\(Wt H t p).2.2.2≠0/\(Wt H t p).2.2.1=0/\(Qu H t p).live=H.live) ∨
 ((Wt H t p).2.1=none/\(Wt H t p).2.2.2=0/\bV H.live (Wt H t p).2.2.1=none/\(Qu H t p).live=dB H.live (Wt H t p).2.2.1 ((Wt H t p).2.2.1,sz,cl,XN (Qu H t p).bX (Wt H t p).2.2.1))
theorem HI.mem (h:HI H held s0)(hg:H.bQ[t]?=some g):g∈H.bQ:=zG hg
theorem HI.jY (h:HI H held s0)(t:Nat):H.own t<H.bX.length:=uG _ (by have:=h.a1;omega)
theorem HI.eB (h:HI H held s0)(t:Nat):H.bX[H.own t]?=some (H.eB t):=by
 have a:=cT (h.jY t);rw[yZ a];exact a
theorem HI.qV (h:HI H held s0):H.tb.length<=40:=by
 have a:=h.eB 0;have:=(h.wi.ga _ _ a).tb;rw[h.wi.tb _ _ a]at this;exact this
theorem HI.cls (h:HI H held s0)(hk:k<H.tb.length):∃c,H.tb[k]?=some c/\c.ok:=⟨H.tb[k],cT hk,h.ok _ (zo hk)⟩
theorem sv.li {m:Nat}(h:sv m g)(hk:k<m):∃l,g.ls[k]?=some l/\g.li k=l/\fJ l/\l.os.length<=128:=by
 have a:=cT (l:=g.ls) (i:=k) (by rw[h.ll];exact hk);have:=h.lo _ (zo (by rw[h.ll];exact hk));exact⟨_,a,xM a,this.1,this.2⟩
theorem sv.gP {m:Nat}(h:sv m g){l':Li}(h1:fJ l')(h2:l'.os.length<=128):(g.ls.set k l').length=m/\∀l∈g.ls.set k l',fJ l/\l.os.length<=128:=by
 refine⟨by rw[nF];exact h.ll,λl a=>?_⟩;rcases yo a with a|rfl
 ·exact h.lo l a
 ·exact⟨h1,h2⟩
theorem Jt {ls:List Li}{l':Li}{hs:List Bt}{ph:Option Ph}(hk:k<ls.length):(⟨ls.set k l',hs,ph⟩:Th).li k=l':=by
 unfold Th.li;rw[Ew l' k hk,zC rfl]
theorem HI.wZ (h:HI H held s0){y:Int}(hu:Um held (k:Int) y)(hc:H.tb[k]?=some c):Lv held (y,(y,(c.size:Int),(k:Int),XN H.bX y)):=by
 obtain⟨p,d,j,e,rfl⟩:=hu;obtain⟨A,g,_⟩:=h.wi.hf p d;obtain⟨c',b,i,_⟩:=h.wi.cls d e g;rw[h.wi.tb _ _ g]at b;have a:H.tb[k]?=some c':=b;rw[hc]at a;cases a;exact⟨rfl,p,d,j,e,rfl,by rw[i],by rw[h.oC d]⟩
theorem GF {ls:List Li}{l:Li}(hl:ls[k]?=some l)(l':Li)(k' x:Int):lV (ls.set k l') k' x+(if(k:Int)=k' then l.os.count x else 0)=lV ls k' x+(if(k:Int)=k' then l'.os.count x else 0):=by
 have:=PI l' (cW.1 hl).1 k' x;rw[zP,hl]at this;exact this
theorem Ox {ls:List Li}{l:Li}(hl:ls[k]?=some l)(x:Int):lV ls (k:Int) x=l.os.count x:=by
 rw[GQ,zP,hl];rfl
theorem L9 (h:HI H held s0)(hg:H.bQ[t]?=some g)(hph:g.ph=some (.take k)){cl sz:Int}(hr:Rq H.tb g (.take k) cl sz):iy H t (.take k)/\sM H t (.take k) cl sz:=by
 have F:=(cW.1 hg).1;have b:=h.th g (h.mem hg);obtain⟨P,C⟩:g.bP=[]/\k<H.tb.length:=by have:=b.ph;unfold im at this;rw[hph]at this;exact this
 obtain⟨rfl,c,m,rfl⟩:=hr;have p:=h.ok c (zG m);obtain⟨l,hl,j,G,R⟩:=b.li C;have d:=D0 p G;have i:=H6 hg;cases hT:Q0 c l with
 | mk o l'=>
  rw[hT]at d;cases o with
  | some y=>
   have B:Wt H t (.take k)=({{H with live:=dB H.live y (y,(c.size:Int),(k:Int),XN H.bX y)}with bQ:=H.bQ.set t {g with ls:=g.ls.set k l'}},none,y,0):=by
    simp only[Wt,i,VY m,j,hT,Vt,Zr hg,Th.gP]
   have e:=ZW F B;have z:1<=gG g (k:Int) y:=by
    have:=F9 hT y;rw[BW]at this;unfold gG;rw[Ox hl];omega
   have Q:=h.qt (h.mem hg) z;have N:=h.lT (h.mem hg) z;have r:l'.os.length<=128:=by
    have:l'.os.length<=l.os.length:=by
     unfold Q0 at hT;split at hT
     ·cases hT
     ·cases hT;simp
    omega
   obtain⟨ll,L⟩:=b.gP (k:=k) d r;have K:=h.ke hg (g':={g with ls:=g.ls.set k l',ph:=none}) (live':=dB H.live y (y,(c.size:Int),(k:Int),XN H.bX y)) (λE x=>by
    rw[BC _ N];have D:=GF hl l' E x;have W:=F9 hT x;unfold gG;rw[hph];simp only[jA];by_cases hkk:(k:Int)=E
    ·simp only[hkk,zS]at D ⊢;omega
    ·simp only[hkk,jP]at D ⊢;omega)
    (Go.Vc.gN h.lk) (λS A=>by
     rcases(Gw N).1 A with A|rfl
     ·exact .inl A
     ·exact .inr (h.wZ Q m))
    (λs a M=>by cases M) ⟨ll,L,b.hb,b.hl,by unfold im;exact P⟩
   refine⟨iy.mk' hg b.hl ⟨C,λV J w=>?_⟩ e K (KS.refl _),.inr (.inr ?_)⟩
   ·rw[i,j,VY m,hT]at w;cases w;exact(h.i63 Q).1
   ·rw[e,B];exact⟨rfl,rfl,N,rfl⟩
  | none=>
   have B:Wt H t (.take k)=({H with bQ:=H.bQ.set t {g with ls:=g.ls.set k l'}},some (.cI k (nZ c l')),0,0):=by
    simp only[Wt,i,VY m,j,hT,Zr hg,Th.gP]
   have e:=ZW F B;obtain⟨o1,o2⟩:=Mh hT;obtain⟨ll,L⟩:=b.gP (k:=k) d (by rw[o2];simp);have u:=d.nD;have U:1<=nZ c l'/\nZ c l'<=32:=by
    unfold bZ.ok at p;unfold nZ;simp only at u;omega
   have K:=h.ke hg (g':={g with ls:=g.ls.set k l',ph:=some (.cI k (nZ c l'))}) (live':=H.live) (λE x=>by
    have D:=GF hl l' E x;rw[o1,o2]at D;unfold gG;rw[hph];simp only[jA];omega) h.lk (λS A=>.inl A) (λs a M=>by cases M) ⟨ll,L,b.hb,b.hl,by
     unfold im;exact⟨P,C,by rw[Jt (by rw[b.ll];exact C)];exact o2,U⟩⟩
   refine⟨iy.mk' hg b.hl ⟨C,λV J w=>?_⟩ e K (KS.refl _),.inl ?_⟩
   ·rw[i,j,VY m,hT]at w;cases w
   ·rw[e,B];exact⟨_,_,rfl,rfl,zL F,⟨rfl,c,m,rfl⟩,by simp[oI]⟩
theorem HZ (h:GA A)(h0:ZZ A (k:Int)=0)(hc:A.tb[k]?=some c):∃x xs,Yp A (k:Int)=x::xs/\xs.length+1=c.batch:=by
 have a:Yp A (k:Int)=(match A.cM[k]? with
  | some t=>t.bs.getLast?.getD []
  | none=>[]):=by unfold Yp;rw[zC h0,dE];rfl
 unfold ZZ at h0;rw[dE]at h0;split at h0
 ·split at h0
  ·rename_i t ht;split at h0
   ·cases h0
   ·rename_i hb;rw[ht]at a;simp only at a;have j:t.bs.getLast?=some (t.bs.getLast hb):=List.getLast?_eq_some_getLast hb;rw[j]at a;simp only[pF]at a;have:=h.oM k c t hc ht _ (List.getLast_mem hb);rw[←a]at this;have m:=h.cE;cases hx:Yp A (k:Int)with
    | nil=>
     rw[hx]at this;have d:k<A.tb.length:=(cW.1 hc).1;obtain⟨g,i,_,b,_⟩:=h.cl d;have e:g=c:=Option.some.inj (b.1.symm.trans hc);have:=(h.cE k g i b).ok;unfold bZ.ok at this;simp at *;subst e;omega
    | cons x xs=>exact⟨x,xs,rfl,by rw[hx]at this;simpa using this⟩
  ·cases h0
 ·cases h0
theorem Mr (h:HI H held s0)(hg:H.bQ[t]?=some g){w:Nat}(hph:g.ph=some (.cI k w)){cl sz:Int}(hr:Rq H.tb g (.cI k w) cl sz):iy H t (.cI k w)/\sM H t (.cI k w) cl sz:=by
 have A:=(cW.1 hg).1;have d:=h.th g (h.mem hg);obtain⟨F,D,p,W⟩:g.bP=[]/\k<H.tb.length/\(g.li k).os=[]/\1<=w/\w<=32:=by have:=d.ph;unfold im at this;rw[hph]at this;exact this
 obtain⟨rfl,c,i,rfl⟩:=hr;have E:=h.ok c (zG i);have u:=E;unfold bZ.ok at u;have B:=h.eB t;have ga:=h.wi.ga _ _ B;have z:(H.eB t).tb[k]?=some c:=by rw[h.wi.tb _ _ B];exact i
 have M:ui H t (.cI k w):=⟨D,λC=>by
  obtain⟨x,m,e,_⟩:=HZ ga C z;rw[e];simp⟩
 by_cases hcase:w=c.batch/\ZZ (H.eB t) (k:Int)=0
 ·obtain⟨rfl,C⟩:=hcase;obtain⟨x,m,L,Q⟩:=HZ ga C z;have r:Wt H t (.cI k c.batch)=({H.cC (H.own t) (Zx (H.eB t) (k:Int))with bQ:=H.bQ.set t {g with bP:=[(k,x::m)]}},some .fill,0,0):=by
   simp only[Wt,VY i,zS,C,QI,L];rw[Zr (g:=g) (by exact hg),F];rfl
  have e:=ZW (H1:=H.cC (H.own t) (Zx (H.eB t) (k:Int))) A r;obtain⟨V,P,N,X⟩:=Jf h.wi B (j:=k);have wi:=h.wi.wx B (k:Int);have J:=h.fA hg (g':={g with bP:=[(k,x::m)],ph:=some .fill}) (live':=H.live) wi h.m5 rfl (by simp[Wd.put]) X (λS y=>by
   rw[BM P (λy R=>V y R _) N,L];unfold gG;rw[hph,F];simp only[jA,Ku,Vu];omega) h.lk (λU G=>.inl G) (λs a K=>by cases K) ⟨d.ll,d.lo,λb hb=>by
    simp only[zN]at hb;subst hb;exact⟨D,by simp,by simp;omega⟩,by simp,by
    unfold im;exact⟨k,x,m,rfl,D,p,O⟩⟩
  refine⟨iy.mk' hg d.hl M e J (KS.refl _),.inl ?_⟩;rw[e,r];exact⟨_,_,rfl,rfl,zL A,⟨k,x::m,[],c,rfl,rfl,i,rfl⟩,by simp[oI]⟩
 ·have r:Wt H t (.cI k w)=({H with bQ:=H.bQ.set t g},some (.cJ k w),0,0):=by
   have:H.bQ.set t g=H.bQ:=Z9 hg;rw[this];simp only[Wt,VY i];split
   ·split
    ·exact(hcase ⟨by assumption,by assumption⟩).elim
    ·rfl
   ·rfl
  have e:=ZW A r;have J:=h.ke hg (g':={g with ph:=some (.cJ k w)}) (live':=H.live) (λS x=>by
   unfold gG;rw[hph];simp only[jA]) h.lk (λU G=>.inl G) (λs a K=>by cases K) ⟨d.ll,d.lo,d.hb,d.hl,by
    unfold im;exact⟨F,D,p,W⟩⟩
  refine⟨iy.mk' hg d.hl M e J (KS.refl _),.inl ?_⟩;rw[e,r];refine⟨_,_,rfl,rfl,zL A,⟨rfl,c,i,rfl⟩,?_⟩;simp only[oI];split<;>omega
theorem Sw (h:GA A)(j w:Nat):(Ya A (j:Int) (w:Int)).length<=w:=by
 unfold Ya;split
 ·rename_i h0;have a:A.ck (j:Int)=true:=by
   unfold Qt at h0;split at h0
   ·assumption
   ·cases h0
  obtain⟨i,m,e⟩:=U6.1 a;obtain⟨c,d,t,b,g⟩:=h.cl e;have:i=j:=by omega
  subst this;unfold Vm;rw[dE,dE,b.1,b.2];exact(Hl w (h.cE i c d b)).2.2.1
 ·simp
theorem RG (H:Hw)(t:Nat)(B:AR)(h:H.own t<H.bX.length)(sp:Sp)(bQ:List Th):Hw.eB {H.cC (H.own t) B with sp:=sp,bQ:=bQ} t=B:=by
 refine yZ ?_;have:Hw.own {H.cC (H.own t) B with sp:=sp,bQ:=bQ} t=H.own t:=by unfold Hw.own Hw.cC;simp
 rw[this];simp[Hw.cC,h]
theorem Ln (h:HI H held s0)(hg:H.bQ[t]?=some g){w:Nat}(hph:g.ph=some (.cJ k w)){cl sz:Int}(hr:Rq H.tb g (.cJ k w) cl sz):iy H t (.cJ k w)/\sM H t (.cJ k w) cl sz:=by
 have C:=(cW.1 hg).1;have d:=h.th g (h.mem hg);obtain⟨E,J,u,S⟩:g.bP=[]/\k<H.tb.length/\(g.li k).os=[]/\1<=w/\w<=32:=by have:=d.ph;unfold im at this;rw[hph]at this;exact this
 obtain⟨rfl,c,L,rfl⟩:=hr;have K:=h.eB t;have ga:=h.wi.ga _ _ K;have wi:=h.wi.from K (k:Int) (w:Int);have i:=Sw ga k w;have r:=(FP ga (k:Int) (w:Int)).2.2.1;cases hv:Ya (H.eB t) (k:Int) (w:Int)with
 | nil=>
  have A:Wt H t (.cJ k w)=({H.cC (H.own t) (Yt (H.eB t) (k:Int) (w:Int))with bQ:=H.bQ.set t g},some (.grow k w),0,0):=by
   have:H.bQ.set t g=H.bQ:=Z9 hg;rw[this];simp only[Wt,hv,zS,Hw.cC]
  have e:=ZW (H1:=H.cC (H.own t) (Yt (H.eB t) (k:Int) (w:Int))) C A;rw[hv]at wi;simp only[pE,kI]at wi;have G:=h.fA hg (g':={g with ph:=some (.grow k w)}) (live':=H.live) wi h.m5 rfl (by simp[Wd.put]) (λp j _=>.inl j) (λN y=>by
   unfold gG;rw[hph];simp only[jA]) h.lk (λP F=>.inl F) (λs a j=>by cases j) ⟨d.ll,d.lo,d.hb,d.hl,by
    unfold im;exact⟨E,J,u,S⟩⟩
  refine⟨iy.mk' hg d.hl trivial e G (KS.refl _),.inl ?_⟩;rw[e,A];exact⟨_,_,rfl,rfl,zL C,⟨rfl,c,L,rfl⟩,by simp[oI,hv]⟩
 | cons v vs=>
  have A:Wt H t (.cJ k w)=({H.cC (H.own t) (Yt (H.eB t) (k:Int) (w:Int))with bQ:=H.bQ.set t {g with bP:=[(k,(v::vs).map λ(x:Nat)=>(x:Int))]}},some .fill,0,0):=by
   simp only[Wt,hv,QI];rw[zB aA,Zr (g:=g) (by exact hg),E];rfl
  have e:=ZW (H1:=H.cC (H.own t) (Yt (H.eB t) (k:Int) (w:Int))) C A;rw[hv]at wi i r;have B:((v::vs).map λ(x:Nat)=>(x:Int)).Nodup:=List.Pairwise.map (R:=(· ≠ ·)) _ (λa b D e=>D O) r;have app:=FH (held:=held) (new:=(v::vs).map λy=>(⟨H.own t,(k:Int),y,og H.tb (k:Int),false⟩:Pc)) (cl:=(k:Int)) (l:=(v::vs).map λ(x:Nat)=>(x:Int)) (λp j=>by
   obtain⟨y,m,rfl⟩:=zE.1 j;exact⟨rfl,rfl,zE.2 ⟨y,m,rfl⟩⟩) λx Q=>by
   obtain⟨y,m,rfl⟩:=zE.1 Q;exact⟨_,zE.2 ⟨y,m,rfl⟩,rfl⟩
  have new:=Cj wi;have G:=h.fA hg (g':={g with bP:=[(k,(v::vs).map λ(x:Nat)=>(x:Int))],ph:=some .fill}) (live':=H.live) wi h.m5 rfl (by simp[Wd.put]) (Iu wi) (λN y=>by
   rw[BM B (λy m=>by
    obtain⟨z,M,rfl⟩:=zE.1 m;exact new ⟨H.own t,(k:Int),z,og H.tb (k:Int),false⟩ (zE.2 ⟨z,M,rfl⟩) _) app]
   unfold gG;rw[hph,E];simp only[jA,Ku,Vu];omega) h.lk (λP F=>.inl F) (λs a j=>by cases j) ⟨d.ll,d.lo,λb hb=>by
    simp only[zN]at hb;subst hb;exact⟨J,by simp,by simp at i ⊢;omega⟩,by simp,by
    unfold im;exact⟨k,(v:Int),vs.map λ(x:Nat)=>(x:Int),rfl,J,u,by simp at i ⊢;omega⟩⟩
  refine⟨iy.mk' hg d.hl trivial e G (KS.refl _),.inl ?_⟩;rw[e,A];refine⟨_,_,rfl,rfl,zL C,⟨k,_,[],c,rfl,rfl,L,rfl⟩,?_⟩;simp[oI,hv]
theorem Lp (h:HI H held s0)(hg:H.bQ[t]?=some g){w:Nat}(hph:g.ph=some (.grow k w)){cl sz:Int}(hr:Rq H.tb g (.grow k w) cl sz):iy H t (.grow k w)/\sM H t (.grow k w) cl sz:=by
 have z:=(cW.1 hg).1;have b:=h.th g (h.mem hg);obtain⟨D,K,x,E⟩:g.bP=[]/\k<H.tb.length/\(g.li k).os=[]/\1<=w/\w<=32:=by have:=b.ph;unfold im at this;rw[hph]at this;exact this
 obtain⟨rfl,c,J,rfl⟩:=hr;have B:=h.eB t;have ga:=h.wi.ga _ _ B;obtain⟨e1,e2,C,r⟩:=h.m5.cL (H.eB t) (k:Int);have wi:=h.wi.grow B (k:Int);by_cases h0:KH (H.eB t) H.sp (k:Int)=0
 ·have m:Wt H t (.grow k w)=({{H.cC (H.own t) (cL (H.eB t) H.sp (k:Int)).1 with sp:=(cL (H.eB t) H.sp (k:Int)).2}with bQ:=H.bQ.set t g},some (.cJ k w),0,0):=by
   have:H.bQ.set t g=H.bQ:=Z9 hg;rw[this];simp only[Wt,h0,zS,Hw.cC]
  have e:=ZW (H1:={H.cC (H.own t) (cL (H.eB t) H.sp (k:Int)).1 with sp:=(cL (H.eB t) H.sp (k:Int)).2}) z m;have d:=RS ga (h.wi.ow _ _ B) (j:=k) (by rw[←e2];exact h0) E.1;rw[show(Wd.mk H.tb s0 H.bX held).sp=s0 from rfl,←e1]at d;rw[show(Wd.mk H.tb s0 H.bX held).sp=s0 from rfl,←e1]at wi;have A:=h.fA hg (g':={g with ph:=some (.cJ k w)}) (live':=H.live) wi C r.l (by simp[Wd.put]) (λp i _=>.inl i) (λF y=>by
   unfold gG;rw[hph];simp only[jA]) h.lk (λG u=>.inl u) (λs a i=>by cases i) ⟨b.ll,b.lo,b.hb,b.hl,by
    unfold im;exact⟨D,K,x,E⟩⟩
  refine⟨iy.mk' hg b.hl trivial e A r,.inl ?_⟩;rw[e,m];refine⟨_,_,rfl,rfl,zL z,⟨rfl,c,J,rfl⟩,?_⟩;have:=RG H t (cL (H.eB t) H.sp (k:Int)).1 (h.jY t) (cL (H.eB t) H.sp (k:Int)).2 (H.bQ.set t {g with ph:=some (.cJ k w)});simp only[oI];rw[this,zB d];omega
 ·have m:Wt H t (.grow k w)=({{H.cC (H.own t) (cL (H.eB t) H.sp (k:Int)).1 with sp:=(cL (H.eB t) H.sp (k:Int)).2}with bQ:=H.bQ.set t g},none,0,KH (H.eB t) H.sp (k:Int)):=by
   have:H.bQ.set t g=H.bQ:=Z9 hg;rw[this];simp only[Wt,h0,jP,Hw.cC]
  have e:=ZW (H1:={H.cC (H.own t) (cL (H.eB t) H.sp (k:Int)).1 with sp:=(cL (H.eB t) H.sp (k:Int)).2}) z m;rw[show(Wd.mk H.tb s0 H.bX held).sp=s0 from rfl,←e1]at wi;have A:=h.fA hg (g':={g with ph:=none}) (live':=H.live) wi C r.l (by simp[Wd.put]) (λp i _=>.inl i) (λF y=>by
   unfold gG;rw[hph];simp only[jA]) h.lk (λG u=>.inl u) (λs a i=>by cases i) ⟨b.ll,b.lo,b.hb,b.hl,by
    unfold im;exact D⟩
  refine⟨iy.mk' hg b.hl trivial e A r,.inr (.inl ?_)⟩;rw[e,m];exact⟨rfl,h0,rfl,rfl⟩
theorem JP (h:HI H held s0)(hg:H.bQ[t]?=some g)(hph:g.ph=some .fill){cl sz:Int}(hr:Rq H.tb g .fill cl sz):iy H t .fill/\sM H t .fill cl sz:=by
 have M:=(cW.1 hg).1;have d:=h.th g (h.mem hg);obtain⟨k,x,xs,z,J,j,P⟩:∃k x xs,g.bP=[(k,x::xs)]/\k<H.tb.length/\(g.li k).os=[]/\xs.length<=128:=by have:=d.ph;unfold im at this;rw[hph]at this;exact this
 obtain⟨k',V,r,c,w,rfl,G,rfl⟩:=hr;rw[z]at w;obtain⟨i, -⟩:=List.cons.inj w;obtain rfl:k=k':=congrArg Prod.fst i;obtain⟨l,hl,u,C,N⟩:=d.li J;have p:=H6 hg;rw[u]at j;have m:(dZ xs.reverse l).os=xs.reverse:=by unfold dZ;rw[j,zB aE];simp
 have F:Wt H t .fill=({{H with live:=dB H.live x (x,(c.size:Int),(k:Int),XN H.bX x)}with bQ:=H.bQ.set t {ls:=g.ls.set k (dZ xs.reverse l),bP:=[],ph:=g.ph}},none,x,0):=by
  simp only[Wt,p,z,VY G,Vt,Zr hg,u]
 have e:=ZW M F;have A:1<=gG g (k:Int) x:=by
  unfold gG;rw[z,Ku,zC rfl];have:1<=(x::xs).count x:=Cc.2 aA;simp only;omega
 have K:=h.qt (h.mem hg) A;have E:=h.lT (h.mem hg) A;obtain⟨L,R⟩:=d.gP (k:=k) (yf (xs:=xs.reverse) C) (by rw[m];simp;omega);have S:=h.ke hg (g':={ls:=g.ls.set k (dZ xs.reverse l),bP:=[],ph:=none}) (live':=dB H.live x (x,(c.size:Int),(k:Int),XN H.bX x)) (λk' y=>by
  rw[BC _ E];have B:=GF hl (dZ xs.reverse l) k' y;rw[j,m,List.count_reverse,List.count_nil]at B;have X:(x::xs).count y=[x].count y+xs.count y:=vd (l₁:=[x]) (l₂:=xs);unfold gG;rw[hph,z];simp only[jA,Ku,Vu];by_cases i:(k:Int)=k'
  ·simp only[i,zS]at B ⊢;omega
  ·simp only[i,jP]at B ⊢;omega)
  (Go.Vc.gN h.lk) (λW D=>by
   rcases(Gw E).1 D with D|rfl
   ·exact .inl D
   ·exact .inr (h.wZ K G))
  (λs a U=>by cases U) ⟨L,R,λb Q=>by simp at Q,by simp,by unfold im;rfl⟩
 refine⟨iy.mk' hg d.hl ⟨k,x,xs,[],by rw[p];exact z,J,(h.i63 K).1,by rw[p,u,j];simp;omega⟩ e S (KS.refl _),.inr (.inr ?_)⟩;rw[e,F];exact⟨rfl,rfl,E,rfl⟩
theorem Le (h:HI H held s0)(hg:H.bQ[t]?=some g){m:Nat}(hph:g.ph=some (.eD m)){cl sz:Int}(hr:Rq H.tb g (.eD m) cl sz):iy H t (.eD m)/\sM H t (.eD m) cl sz:=by
 have K:=(cW.1 hg).1;have b:=h.th g (h.mem hg);obtain⟨L,S,Q⟩:g.bP=[]/\1<=m/\m<=64:=by have:=b.ph;unfold im at this;rw[hph]at this;exact this
 obtain⟨rfl,rfl⟩:=hr;have N:=h.eB t;have ga:=h.wi.ga _ _ N;obtain⟨e1,e2,W,P,B⟩:=h.m5.cA (H.eB t) (m:Int) 1;have wi:=h.wi.wg N (m:Int) 1;rw[show(Wd.mk H.tb s0 H.bX held).sp=s0 from rfl,←e1,←e2,←W]at wi;by_cases h0:Qm (H.eB t) H.sp (m:Int) 1=0
 ·rw[zC h0]at wi;have j:=Cj wi;have A:=FH (held:=held) (new:=[(⟨H.own t, -1,ZY (H.eB t) H.sp (m:Int) 1*256,(m:Int).toNat*256,false⟩:Pc)]) (cl:=-1) (l:=[((ZY (H.eB t) H.sp (m:Int) 1*256:Nat):Int)]) (λp d=>by
   simp only[zN]at d;subst d;exact⟨rfl,rfl,by simp⟩) λx C=>by
   simp only[zN]at C;subst C;exact⟨_,zN.2 rfl,rfl⟩
  have i:(⟨H.own t, -1,ZY (H.eB t) H.sp (m:Int) 1*256,(m:Int).toNat*256,false⟩:Pc)∈held++[(⟨H.own t, -1,ZY (H.eB t) H.sp (m:Int) 1*256,(m:Int).toNat*256,false⟩:Pc)]:=by simp
  have J:=wi.size_pos i;have u:=wi.jG i;have E:=wi.owner i (x:=ZY (H.eB t) H.sp (m:Int) 1*256) (zD _) (by simp only at J ⊢;omega);generalize D:ZY (H.eB t) H.sp (m:Int) 1=V at *;have r:bV H.live ((V*256:Nat):Int)=none:=h.sS λF U=>j _ (zN.2 rfl) F U;have z:Wt H t (.eD m)=({{H.cC (H.own t) (cA (H.eB t) H.sp (m:Int) 1).1 with sp:=(cA (H.eB t) H.sp (m:Int) 1).2,live:=dB H.live ((V*256:Nat):Int) (((V*256:Nat):Int),((m*256:Nat):Int), -1,XN (H.bX.set (H.own t) (cA (H.eB t) H.sp (m:Int) 1).1) ((V*256:Nat):Int))}with bQ:=H.bQ.set t g},none,((V*256:Nat):Int),0):=by
   have:H.bQ.set t g=H.bQ:=Z9 hg;rw[this];simp only[Wt,h0,zS,Hw.cC,Vt,D]
  have e:=ZW (H1:={H.cC (H.own t) (cA (H.eB t) H.sp (m:Int) 1).1 with sp:=(cA (H.eB t) H.sp (m:Int) 1).2,live:=dB H.live ((V*256:Nat):Int) (((V*256:Nat):Int),((m*256:Nat):Int), -1,XN (H.bX.set (H.own t) (cA (H.eB t) H.sp (m:Int) 1).1) ((V*256:Nat):Int))}) K z;have G:=h.fA hg (g':={g with ph:=none}) (live':=dB H.live ((V*256:Nat):Int) (((V*256:Nat):Int),((m*256:Nat):Int), -1,XN (H.bX.set (H.own t) (cA (H.eB t) H.sp (m:Int) 1).1) ((V*256:Nat):Int))) wi P B.l (by simp[Wd.put]) (Iu wi) (λF y=>by
   rw[BC _ r,BM (l:=[((V*256:Nat):Int)]) (cl:=-1) aA (λy M=>by
    simp only[zN]at M;subst M;exact j _ (zN.2 rfl) _) A]
   unfold gG;rw[hph];simp only[jA];omega) (Go.Vc.gN h.lk) (λR w=>by
    rcases(Gw r).1 w with w|rfl
    ·exact .inl w
    ·refine .inr ⟨rfl,_,i,rfl,rfl,rfl,?_,?_⟩
     ·simp
     ·exact E) (λs a d=>by cases d) ⟨b.ll,b.lo,b.hb,b.hl,by
    unfold im;exact L⟩
  refine⟨iy.mk' hg b.hl ?_ e G B,.inr (.inr ?_)⟩
  ·show ZY (H.eB t) H.sp (m:Int) 1<=1000000;rw[D];simp only at u;omega
  ·rw[e,z];exact⟨rfl,rfl,r,rfl⟩
 ·rw[zB h0]at wi;have D:ZY (H.eB t) H.sp (m:Int) 1=0:=by
   unfold Qm at h0;unfold ZY;split
   ·rename_i d;rw[d,zC rfl]at h0;split at h0
    ·exact(h0 rfl).elim
    ·rename_i hn;cases C:(cZ (H.eB t) H.sp (m:Int).toNat (1:Int).toNat 41).1 with
     | none=>rfl
     | some y=>rw[C]at hn;simp at hn
   ·rfl
  have z:Wt H t (.eD m)=({{H.cC (H.own t) (cA (H.eB t) H.sp (m:Int) 1).1 with sp:=(cA (H.eB t) H.sp (m:Int) 1).2}with bQ:=H.bQ.set t g},none,0,Qm (H.eB t) H.sp (m:Int) 1):=by
   have:H.bQ.set t g=H.bQ:=Z9 hg;rw[this];simp only[Wt,h0,jP,Hw.cC]
  have e:=ZW (H1:={H.cC (H.own t) (cA (H.eB t) H.sp (m:Int) 1).1 with sp:=(cA (H.eB t) H.sp (m:Int) 1).2}) K z;have G:=h.fA hg (g':={g with ph:=none}) (live':=H.live) wi P B.l (by simp[Wd.put]) (λp d _=>.inl d) (λF y=>by
   unfold gG;rw[hph];simp only[jA]) h.lk (λR w=>.inl w) (λs a d=>by cases d) ⟨b.ll,b.lo,b.hb,b.hl,by
    unfold im;exact L⟩
  refine⟨iy.mk' hg b.hl ?_ e G B,.inr (.inl ?_)⟩
  ·show ZY (H.eB t) H.sp (m:Int) 1<=1000000;rw[D];omega
  ·rw[e,z];exact⟨rfl,h0,rfl,rfl⟩
theorem Rp {W:Wd}(h:WI W)(hk:W.bX[k]?=some A){j:Nat}{l:List Int}(hl:∀x∈l,∃p∈W.held,lY k (j:Int) x p=true)(hn:l.Nodup)(hj:j<W.tb.length):QL A (j:Int) l=0/\WI (W.put k (Zu A (j:Int) l) W.sp (W.held.filter λp=>!dW k (j:Int) l p)):=by
 have ga:=h.ga k A hk;have g:jf W.held k (j:Int) l=true:=Kv.2 ⟨hl,hn⟩;obtain⟨c,w,_,d,_⟩:=ga.cl (k:=j) (by rw[h.tb k A hk];exact hj);have e:QL A (j:Int) l=0:=by
  rw[HD ga d];refine Cv ⟨λx m=>?_,hn⟩;obtain⟨p,u,b⟩:=hl x m;obtain⟨r,i,s,y⟩:=KA.1 b;obtain⟨_,_,_,a,_⟩:=h.cls u i (by rw[r];exact hk);rw[s]at a;exact(Vd d).1 a
 refine⟨e,?_⟩;have:=h.LH hk g;rw[zC e,h.xl g]at this;exact this
theorem CS {xs:List Int}{tb:List bZ}{ars0:List AR}(hH:H.tb=tb)(h:WI ⟨tb,s0,H.bX,held⟩)(hk:k<tb.length)(hxs:∀x∈xs,Um held (k:Int) x)(hn:xs.Nodup)(ha:∀p∈held,XN ars0 (p.addr:Int)=(p.k:Int)):∀j,j<=H.bX.length →
 ∃ars',Va H k (ZF ars0 xs) (List.range j) = {H with bX:=ars'}/\ars'.length=H.bX.length/\WI ⟨tb,s0,ars',held.filter λp=>!(decide (p.k<j)&&(p.cls==(k:Int)&&xs.contains (p.addr:Int)))⟩
 | 0,_=>by
  refine⟨H.bX,rfl,rfl,?_⟩;have:(held.filter λp=>!(decide (p.k<0)&&(p.cls==(k:Int)&&xs.contains (p.addr:Int))))=held:=pH.2 λp _=>by simp
  rw[this];exact h
 | j+1,hj=>by
  obtain⟨ars',e,u,r⟩:=CS hH h hk hxs hn ha j O;rw[Ve,e];have y:ars'[j]?=some (ars'[j]' O):=cT _;simp only[y];have b:∀{p:Pc},p∈held->p.k=j->((p.addr:Int)∈ZF ars0 xs j↔(p.addr:Int)∈xs):=λ{p} d a=>by
   unfold ZF;rw[zI,ha p d,a];simp
  have g:((held.filter λp=>!(decide (p.k<j)&&(p.cls==(k:Int)&&xs.contains (p.addr:Int)))).filter λp=>!dW j (k:Int) (ZF ars0 xs j) p)=held.filter λp=>!(decide (p.k<j+1)&&(p.cls==(k:Int)&&xs.contains (p.addr:Int))):=by
   rw[Aq];apply wH;intro p d;have e1:dW j (k:Int) (ZF ars0 xs j) p=(p.k==j&&(p.cls==(k:Int)&&xs.contains (p.addr:Int))):=by
    unfold dW;by_cases a:p.k=j
    ·have:=b d a;have e2:(ZF ars0 xs j).contains (p.addr:Int)=xs.contains (p.addr:Int):=by
      rw[l5,xr,xr];exact this
     rw[e2]
    ·have:(p.k==j)=false:=by simpa using a
     rw[this];rfl
   rw[e1];have B:decide (p.k<j+1)=(decide (p.k<j)||p.k==j):=by
    rw[l5];simp;omega
   rw[B];cases p.k==j<;>cases decide (p.k<j)<;>cases(p.cls==(k:Int)&&xs.contains (p.addr:Int))<;>rfl
  by_cases d:ZF ars0 xs j=[]
  ·rw[zC d];refine⟨ars',rfl,u,?_⟩;rw[←g,d];have:∀p:Pc,(!dW j (k:Int) [] p)=true:=λp=>by simp[dW]
   rw[pH.2 λp _=>this p];exact r
  ·rw[zB d];refine⟨ars'.set j (Zu (ars'[j]' O) (k:Int) (ZF ars0 xs j)),by simp[Hw.cC],by simp[u],?_⟩;rw[←g];refine(Rp r y (j:=k) (l:=ZF ars0 xs j) (λx s=>?_) (hn.sublist sW) hk).2;unfold ZF at s;obtain⟨m,i⟩:=zI.1 s;obtain⟨p,d,A,z,w⟩:=hxs x m;have a:p.k=j:=by
    have:=ha p d;rw[w]at this;rw[this]at i;have:(p.k:Int)=(j:Int):=by simpa using i
    omega
   exact⟨p,zI.2 ⟨d,by simp[a]⟩,KA.2 ⟨a,z,w,A⟩⟩
theorem L7 {tb:List bZ}(hH:H.tb=tb)(h:WI ⟨tb,s0,H.bX,held⟩){own:Nat}(hown:own<H.bX.length)(hk:k<tb.length){xs:List Int}(hxs:∀x∈xs,Um held (k:Int) x)(hn:xs.Nodup) :
 ∃ars' held',Ht H own k xs = {H with bX:=ars'}/\ars'.length=H.bX.length/\WI ⟨tb,s0,ars',held'⟩/\(∀c x,Um held' c x↔Um held c x/\¬(c=(k:Int)/\x∈xs))/\∀p∈held',p.eI=false->p∈held:=by
 have u:H.bX[own]?=some H.bX[own]:=cT hown;have y:∀p∈held,XN H.bX (p.addr:Int)=(p.k:Int):=λp a=>h.owner a (zD _) (by have:=(h.size_pos a).1;omega);have all:∃ars' held',Va H k (ZF H.bX xs) (List.range H.bX.length) = {H with bX:=ars'}/\ars'.length=H.bX.length/\WI ⟨tb,s0,ars',held'⟩/\(∀c x,Um held' c x↔Um held c x/\¬(c=(k:Int)/\x∈xs))/\∀p∈held',p.eI=false->p∈held:=by
  obtain⟨ars',e,s,j⟩:=CS hH h hk hxs hn y H.bX.length (zD _);refine⟨ars',_,e,s,j,λc x=>?_,λp a _=>(zI.1 a).1⟩;constructor
  ·rintro⟨p,a,i,g,d⟩;obtain⟨a,hf⟩:=zI.1 a;refine⟨⟨p,a,i,g,d⟩,?_⟩;rintro⟨rfl,b⟩;obtain⟨B,z,_⟩:=h.hf p a;have m:p.k<H.bX.length:=(cW.1 z).1;rw[g,d]at hf;simp[m,b]at hf
  ·rintro⟨⟨p,a,i,g,d⟩,hno⟩;refine⟨p,zI.2 ⟨a,?_⟩,i,g,d⟩;rw[g,d];by_cases hc:c=(k:Int)
   ·have:x∉xs:=λb=>hno ⟨hc,b⟩;simp[this]
   ·simp[hc]
 unfold Ht;rw[u];simp only;by_cases hcond:(ZF H.bX xs own).length=xs.length/\K0 H.bX[own] (k:Int) xs=true
 ·rw[zC hcond];have r:∀x∈xs,XN H.bX x=(own:Int):=by
   have i:ZF H.bX xs own=xs:=by
    unfold ZF at hcond ⊢;exact List.filter_sublist.eq_of_length hcond.1
   intro x b;rw[←i]at b;unfold ZF at b;simpa using(zI.1 b).2
  have w:jf held own (k:Int) xs=true:=Kv.2 ⟨λx b=>by
   obtain⟨p,a,i,g,d⟩:=hxs x b;have C:=y p a;rw[d,r x b]at C;exact⟨p,a,KA.2 ⟨O,g,d,i⟩⟩,hn⟩
  have j:=h.PH u w;rw[zC hcond.2]at j;exact⟨_,_,rfl,by simp[Hw.cC],j,S2 h w,I6⟩
 ·rw[zB hcond];have e:(if(ZF H.bX xs own).length=xs.length then H.cC own (QV H.bX[own] (k:Int) xs)else H)=H:=by
   split
   ·rename_i s;have A:K0 H.bX[own] (k:Int) xs=false:=by
     apply nB.2;intro b;exact hcond ⟨s,b⟩
    have:QV H.bX[own] (k:Int) xs=H.bX[own]:=by unfold QV;rw[A];rfl
    rw[this];exact CM u
   ·rfl
  rw[e];exact all
def lf:Ph->Prop
 | .find _=>True
 | .put _ _=>True
 | .back=>True
 | .dC _ _=>True
 | .drain=>True
 | _=>False
def pL (g:Th):Ph->Nat
 | .find _=>101
 | .put _ _=>100
 | .drain=>100
 | .back=>g.bP.length
 | _=>0
def nv (H:Hw)(t:Nat)(g:Th)(p:Ph):Prop:=(Wt H t p).2.2.1=0 ∧
 ((∃p' g',(Wt H t p).2.1=some p'/\lf p'/\(∀x,p'≠.find x)/\(Qu H t p).bQ[t]?=some g'/\pL g' p'<pL g p)\/(Wt H t p).2.1=none) ∧
 ((∀x,p≠.find x)->(Wt H t p).2.2.2=0/\(Qu H t p).live=H.live) ∧
 (∀x,p=.find x->(bV H.live x=none->(Wt H t p).2.1=none/\(Wt H t p).2.2.2≠0/\(Qu H t p).live=H.live)/\(∀b,bV H.live x=some b->(Wt H t p).2.2.2=0/\(Qu H t p).live=cR H.live x))
theorem BY (hg:H.bQ[t]?=some g):jO H t=if g.bP=[]then none else some .back:=by unfold jO;rw[hg]
theorem N5 (h:HI H held s0)(hg:H.bQ[t]?=some g){x:Int}(hph:g.ph=some (.find x)):iy H t (.find x)/\nv H t g (.find x):=by
 have D:=(cW.1 hg).1;have d:=h.th g (h.mem hg);obtain⟨N,C⟩:g.bP=[]/\iE x:=by have:=d.ph;unfold im at this;rw[hph]at this;exact this
 have Q:∀A∈H.bX,iK A:=λA U=>by
  obtain⟨j,hj⟩:=zQ U;exact(h.wi.ga j A hj).om
 cases hm:bV H.live x with
 | none=>
  have z:Wt H t (.find x)=({H with bQ:=H.bQ.set t g},none,0,lC H x):=by
   have:H.bQ.set t g=H.bQ:=Z9 hg;rw[this];simp only[Wt,UO,hm]
  have e:=ZW D z;have L:=h.ke hg (g':={g with ph:=none}) (live':=H.live) (λG x=>by
   unfold gG;rw[hph];simp only[jA]) h.lk (λX J=>.inl J) (λs a P=>by cases P) ⟨d.ll,d.lo,d.hb,d.hl,by
    unfold im;exact N⟩
  refine⟨iy.mk' hg d.hl ⟨C,λ_=>Q,λb hb=>by rw[hm]at hb;cases hb⟩ e L (KS.refl _),?_⟩;unfold nv;rw[e,z];refine⟨rfl,.inr rfl,λi=>(i x rfl).elim,λy m=>?_⟩;cases m;refine⟨λ_=>⟨rfl,?_,rfl⟩,(λb hb=>by rw[hm]at hb;cases hb)⟩;show lC H x≠0;unfold lC
  repeat' split
  all_goals simp
 | some b=>
  have R:=KO hm;obtain⟨_,p,P,h1,V,Z,h4,W⟩:=h.lv _ R;simp only at V Z h4 W;have S:0<=x:=by omega
  obtain⟨A,U,hd⟩:=h.wi.hf p P;have Y:ui H t (.find x):=⟨C,(λi=>by rw[hm]at i;cases i),λ_ _=>S⟩;rcases hd with⟨c1,_,r,hr,c2,c3⟩|⟨j,c,c1,c2,c3,_⟩
  ·have K:b.2.2.1 = -1:=by rw[←V,c1]
   have z:Wt H t (.find x)=({{H with live:=cR H.live x}with bQ:=H.bQ.set t g},some (.dC (x/256) b.2.2.2),0,0):=by
    have:H.bQ.set t g=H.bQ:=Z9 hg;rw[this];simp only[Wt,UO,hm];rw[zC O]
   have e:=ZW (H1:={H with live:=cR H.live x}) D z;have u:x/256*256=x:=by omega
   have L:=h.ke hg (g':={g with ph:=some (.dC (x/256) b.2.2.2)}) (live':=cR H.live x) (λG y=>by
    have w:=Aw h.lk hm G y;rw[K]at w;unfold gG;rw[hph];simp only[jA,u];by_cases m:x=y
    ·subst m;rw[BW]at w;by_cases hk : -1=G
     ·rw[zC hk]at w;rw[zC ⟨hk.symm,rfl⟩];omega
     ·rw[zB hk]at w;rw[zB (λC=>hk C.1.symm)];omega
    ·have:[x].count y=0:=xW.2 aE;rw[this]at w;rw[zB (λC=>m C.2.symm)];split at w<;>omega)
    (Go.Vc.jk h.lk) (λX J=>.inl (GD.1 J).1) (λs a B=>by
     cases B;exact⟨p,P,h1,c1,by rw[u];exact Z,W⟩) ⟨d.ll,d.lo,d.hb,d.hl,by
      unfold im;exact N⟩
   refine⟨iy.mk' hg d.hl Y e L (KS.refl _),?_⟩;unfold nv;rw[e,z];refine⟨rfl,.inl ⟨_,_,rfl,trivial,(λy m=>by cases m),zL D,by simp[pL]⟩,λi=>(i x rfl).elim,λy m=>?_⟩;cases m;exact⟨(λi=>by rw[hm]at i;cases i),λ_ _=>⟨rfl,rfl⟩⟩
  ·have E:b.2.2.1=(j:Int):=by rw[←V,c1]
   have F:j<H.tb.length:=by
    rw[h.wi.tb _ _ U]at c2;exact(cW.1 c2).1
   have z:Wt H t (.find x)=({{H with live:=cR H.live x}with bQ:=H.bQ.set t {g with bP:=[(j,[x])]}},some (.put j x),0,0):=by
    simp only[Wt,UO,hm];rw[zB O,E,dE];unfold QI;rw[Zr (g:=g) (by exact hg),N];rfl
   have e:=ZW (H1:={H with live:=cR H.live x}) D z;have L:=h.ke hg (g':={g with bP:=[(j,[x])],ph:=some (.put j x)}) (live':=cR H.live x) (λG y=>by
    have w:=Aw h.lk hm G y;rw[E]at w;unfold gG;rw[hph,N];simp only[jA,Ku,Vu];omega)
    (Go.Vc.jk h.lk) (λX J=>.inl (GD.1 J).1) (λs a B=>by cases B) ⟨d.ll,d.lo,λb' M=>by
     simp only[zN]at M;subst M;exact⟨F,by simp,by simp⟩,by simp,by
     unfold im;exact⟨rfl,F⟩⟩
   refine⟨iy.mk' hg d.hl Y e L (KS.refl _),?_⟩;unfold nv;rw[e,z];refine⟨rfl,.inl ⟨_,_,rfl,trivial,(λy m=>by cases m),zL D,by simp[pL]⟩,λi=>(i x rfl).elim,λy m=>?_⟩;cases m;exact⟨(λi=>by rw[hm]at i;cases i),λ_ _=>⟨rfl,rfl⟩⟩
theorem Cy {f:bZ->Li->List Int×Li}{tb:List bZ}{ls:List Li}{b:Bt}(h:b∈Q1 f tb ls):b.1<tb.length/\b.2≠[]/\∃c∈tb,∃l∈ls,b.2=(f c l).1:=by
 unfold Q1 at h;obtain⟨k,d,a⟩:=wU.1 h;split at a
 ·rename_i c l hc hl;split at a
  ·cases a
  ·cases a;exact⟨zg.1 d,by assumption,c,zG hc,l,zG hl,rfl⟩
 ·cases a
theorem DV {f:bZ->Li->List Int×Li}{tb:List bZ}{ls:List Li}{l':Li}(h:l'∈QX f tb ls):∃c∈tb,∃l∈ls,l'=(f c l).2:=by
 unfold QX at h;obtain⟨i,a⟩:=zQ h;rw[Ak]at a;split at a
 ·rename_i c l hc hl;cases a;exact⟨c,zG hc,l,zG hl,rfl⟩
 ·cases a
theorem C5 {f:bZ->Li->List Int×Li}{tb:List bZ}{ls:List Li}(h:ls.length=tb.length):(QX f tb ls).length=tb.length:=by
 unfold QX;rw[List.length_zipWith];omega
theorem FR (c:bZ)(l:Li):(KE c l).2.os.length<=l.os.length/\(KE c l).1.length<=l.os.length:=by
 simp only[KE,gp,j5,zZ];omega
theorem Ie (c:bZ)(l:Li):(ZH c l).2.os.length<=l.os.length/\(ZH c l).1.length<=l.os.length:=by
 simp only[ZH,gp,j5,zZ];omega
theorem Nm (h:HI H held s0)(hg:H.bQ[t]?=some g)(hph:g.ph=some .drain):iy H t .drain/\nv H t g .drain:=by
 have m:=(cW.1 hg).1;have d:=h.th g (h.mem hg);have z:g.bP=[]:=by have:=d.ph;unfold im at this;rw[hph]at this;exact this
 have K:=h.qV;have w:=GL ZH H.tb g.ls;have u:Wt H t .drain=({H with bQ:=H.bQ.set t {g with ls:=QX ZH H.tb g.ls,bP:=Q1 ZH H.tb g.ls}},(if Q1 ZH H.tb g.ls=[]then none else some .back),0,0):=by
  simp only[Wt,Zr hg];rw[BY (g:={g with ls:=QX ZH H.tb g.ls,bP:=Q1 ZH H.tb g.ls}) (by simp[m])]
 have e:=ZW m u;have J:=h.ke hg (g':={ls:=QX ZH H.tb g.ls,bP:=Q1 ZH H.tb g.ls,ph:=if Q1 ZH H.tb g.ls=[]then none else some .back}) (live':=H.live) (λr x=>by
  have L:=FC (f:=ZH) RZ d.ll r x;unfold gG;rw[hph,z];have:jA (if Q1 ZH H.tb g.ls=[]then none else some Ph.back) r x=0:=by split<;>rfl
  simp only[this,Vu];simp only[jA];omega) h.lk (λM F=>.inl F) (λs a p=>by
   simp only at p;split at p<;>cases p) ⟨C5 d.ll,λl hl=>by
   obtain⟨c,_,j,i,rfl⟩:=DV hl;have:=d.lo j i;have:=Ie c j;exact⟨NX (d.lo j i).1,O⟩,λb C=>by
   obtain⟨A,D,c,_,j,i,E⟩:=Cy C;have:=d.lo j i;have:=Ie c j;exact⟨A,D,by rw[E];omega⟩,by simp only;omega,by
   unfold im;by_cases ho:Q1 ZH H.tb g.ls=[]
   ·rw[zC ho];exact ho
   ·rw[zB ho];exact ho⟩
 refine⟨iy.mk' hg d.hl trivial e J (KS.refl _),?_⟩;unfold nv;rw[e,u];refine⟨rfl,?_,λ_=>⟨rfl,rfl⟩,λx G=>by cases G⟩;by_cases ho:Q1 ZH H.tb g.ls=[]
 ·exact .inr (by simp only;rw[zC ho])
 ·exact .inl ⟨.back,_,by simp only;rw[zB ho],trivial,(λy B=>by cases B),zL m,by simp only[pL];omega⟩
theorem Sm (h:HI H held s0)(hg:H.bQ[t]?=some g){s a:Int}(hph:g.ph=some (.dC s a)):iy H t (.dC s a)/\nv H t g (.dC s a):=by
 have M:=(cW.1 hg).1;have b:=h.th g (h.mem hg);have P:g.bP=[]:=by have:=b.ph;unfold im at this;rw[hph]at this;exact this
 obtain⟨p,C,X,R,h3,h4⟩:=h.gv g (h.mem hg) s a hph;obtain⟨A,w,_⟩:=h.wi.hf p C;have u:H.bX[p.k]?=some A:=w;have U:=(cW.1 u).1;obtain⟨_,r,K,Z,W⟩:=h.wi.run C R w;have ga:=h.wi.ga _ _ w;have d:s=(r.1:Int):=by omega
 have L:KK A s=0:=by
  unfold KK;rw[zC];unfold pA;rw[Bo];exact⟨r,K,by simp[d]⟩
 have E:jf held p.k (-1) [s*256]=true:=by rw[d];exact h.wi.mT w K
 have wi:=h.wi.wI w s;rw[zC L,h.wi.xl E]at wi;have m:a.toNat=p.k:=by omega
 have J:Wt H t (.dC s a)=({H.cC p.k (Qr A s)with bQ:=H.bQ.set t g},none,0,0):=by
  have:H.bQ.set t g=H.bQ:=Z9 hg;rw[this];simp only[Wt,m,u,Hw.cC]
 have e:=ZW (H1:=H.cC p.k (Qr A s)) M J;have V:=h.fA hg (g':={g with ph:=none}) (live':=H.live) wi h.m5 rfl (by simp[Wd.put]) (λq D _=>.inl (zI.1 D).1) (λy x=>by
  have i:=Ig (held':=held.filter λF=>!dW p.k (-1) [s*256] F) (l:=[s*256]) (cl:=-1) aA (OS E) (Lj h.wi E) y x;have i:kX held y x=kX (held.filter λF=>!dW p.k (-1) [s*256] F) y x+(if -1=y then[s*256].count x else 0):=i
  unfold gG;rw[hph];simp only[jA];by_cases hy:s*256=x
  ·subst hy;rw[BW]at i;by_cases hk : -1=y
   ·rw[zC hk]at i;rw[zC ⟨hk.symm,rfl⟩];omega
   ·rw[zB hk]at i;rw[zB (λz=>hk z.1.symm)];omega
  ·have:[s*256].count x=0:=xW.2 aE;rw[this]at i;rw[zB (λz=>hy z.2.symm)];split at i<;>omega) h.lk (λY S=>.inl S) (λs a C=>by cases C) ⟨b.ll,b.lo,b.hb,b.hl,by
   unfold im;exact P⟩
 refine⟨iy.mk' hg b.hl ⟨O,O,λB N q D=>?_⟩ e V (KS.refl _),?_⟩
 ·obtain⟨j,Q⟩:=zQ N;have G:=h.wi.ga j B Q;have:=G.fit D;have:=G.pg.n2;omega
 ·unfold nv;rw[e,J];exact⟨rfl,.inr rfl,λ_=>⟨rfl,rfl⟩,λx z=>by cases z⟩
theorem JN (h:HI H held s0)(hg:H.bQ[t]?=some g)(hph:g.ph=some .back):iy H t .back/\nv H t g .back:=by
 have D:=(cW.1 hg).1;have d:=h.th g (h.mem hg);have N:g.bP≠[]:=by have:=d.ph;unfold im at this;rw[hph]at this;exact this
 have z:=H6 hg;cases hhd:g.bP with
 | nil=>exact(N hhd).elim
 | cons b r=>
  obtain⟨k,A⟩:=b;obtain⟨L,w,E⟩:=d.hb (k,A) (by rw[hhd];simp);simp only at L w E;have m:∀x,A.count x<=gG g (k:Int) x:=λx=>by
   unfold gG;rw[hhd,Ku,zC rfl];simp only;omega
  have i:∀x∈A,Um held (k:Int) x:=λx u=>h.qt (h.mem hg) (zh (Cc.2 u) (m x));have B:A.Nodup:=Bp.2 λx=>by
   have M:=m x;have W:=h.oJ (h.mem hg) (k:Int) x;have X:=ED held (k:Int) x;omega
  obtain⟨j,F,S,G,wi,um,sub⟩:=L7 (H:={H with bQ:=H.bQ.set t {g with bP:=r}}) (tb:=H.tb) rfl h.wi (h.jY t) L i B;have K:Wt H t .back=({{H with bX:=j}with bQ:=H.bQ.set t {g with bP:=r}},(if r=[]then none else some .back),0,0):=by
   simp only[Wt,z,hhd,Zr hg,S];rw[BY (g:={g with bP:=r}) (by simp[D])]
  have e:=ZW (H1:={H with bX:=j}) D K;have R:=h.fA hg (g':={g with bP:=r,ph:=if r=[]then none else some .back}) (live':=H.live) wi h.m5 rfl G (λp C U=>.inl (sub p C U)) (λJ x=>by
   have M:=Ig B i um J x;unfold gG;rw[hph,hhd,Ku];have:jA (if r=[]then none else some Ph.back) J x=0:=by split<;>rfl
   simp only[this];simp only[jA];omega) h.lk (λV Q=>.inl Q) (λs a C=>by
    simp only at C;split at C<;>cases C) ⟨d.ll,d.lo,λb hb=>d.hb b (by rw[hhd];exact nA _ hb),by have:=d.hl;rw[hhd]at this;simp at this ⊢;omega,by
    unfold im;by_cases ho:r=[]
    ·rw[zC ho];exact ho
    ·rw[zB ho];exact ho⟩
  refine⟨iy.mk' hg d.hl ⟨k,A,r,by rw[z];exact hhd,λx u=>⟨(h.i63 (i x u)).1,(h.i63 (i x u)).2.2⟩,O⟩ e R (KS.refl _),?_⟩;unfold nv;rw[e,K];refine⟨rfl,?_,λ_=>⟨rfl,rfl⟩,λx u=>by cases u⟩;by_cases ho:r=[]
  ·exact .inr (by simp only;rw[zC ho])
  ·exact .inl ⟨.back,_,by simp only;rw[zB ho],trivial,(λy P=>by cases P),zL D,by simp only[pL];rw[hhd];simp⟩
theorem ML (h:HI H held s0)(hg:H.bQ[t]?=some g){x:Int}(hph:g.ph=some (.put k x)):iy H t (.put k x)/\nv H t g (.put k x):=by
 have B:=(cW.1 hg).1;have r:=h.th g (h.mem hg);obtain⟨K,L⟩:g.bP=[(k,[x])]/\k<H.tb.length:=by have:=r.ph;unfold im at this;rw[hph]at this;exact this
 obtain⟨c,hc,D⟩:=h.cls L;obtain⟨l,hl,X,F,hlm⟩:=r.li L;have E:=H6 hg;have h40:=h.qV;have S:=Pe (x:=x) D F;have V:=SE c x l O;have Q:(dJ c x l).1.length<=129/\(dJ c x l).2.os.length<=128:=by
  have hlim:=F.lim;have u:(dZ [x] l).os=l.os++[x]:=by unfold dZ;rw[zB aE]
  have Z:(mF c (dZ [x] l)).os=l.os++[x]:=by rw[←u];unfold mF;split<;>rfl
  unfold bZ.ok at D;unfold dJ;rw[zB O];split
  ·rw[u];simp;omega
  ·simp only[gp,Z,zZ,j5,zO,Ca];omega
 obtain⟨N,W⟩:=r.gP (k:=k) S Q.2;have P:∃hs:List Bt,(if(dJ c x l).1=[]then[]else[(k,(dJ c x l).1)])=hs:=⟨_,rfl⟩
 obtain⟨i,j⟩:=P;have hs2l:i.length<=1:=by rw[←j];split<;>simp
 have z:∀b∈i,b.1<H.tb.length/\b.2≠[]/\b.2.length<=256:=λb p=>by
  rw[←j]at p;split at p
  ·simp at p
  ·simp only[zN]at p;subst p;exact⟨L,by assumption,by simp only;omega⟩
 have C:∀d y,lM i d y=if(k:Int)=d then(dJ c x l).1.count y else 0:=λd y=>by
  rw[←j];split
  ·rename_i hn;rw[hn,Vu];simp
  ·simp only[Ku,Vu,j6]
 let g3:Th:={g with ls:=g.ls.set k (dJ c x l).2,bP:=i}
 let g4:Th:=if H.cf.dA<QS H.tb g3.ls then{g3 with ls:=QX KE H.tb g3.ls,bP:=g3.bP++Q1 KE H.tb g3.ls}else g3
 have aa:ir H t k x = {H with bQ:=H.bQ.set t g4}:=by
  have e2:(if(dJ c x l).1=[]then H.dT t λh=>h.gP k (dJ c x l).2 else QI (H.dT t λh=>h.gP k (dJ c x l).2) t k (dJ c x l).1) = {H with bQ:=H.bQ.set t {g with ls:=g.ls.set k (dJ c x l).2,bP:=(k,[x])::i}}:=by
   rw[←j];split
   ·rw[Zr hg,←K];rfl
   ·rw[Zr hg];unfold QI;rw[Zr (g:=g.gP k (dJ c x l).2) (by simp[B])];simp only[nE,Th.gP,K];rfl
  have e3:({H with bQ:=H.bQ.set t {g with ls:=g.ls.set k (dJ c x l).2,bP:=(k,[x])::i}}:Hw).dT t (λh=>{h with bP:=h.bP.drop 1}) = {H with bQ:=H.bQ.set t g3}:=by
   rw[Zr (g:={g with ls:=g.ls.set k (dJ c x l).2,bP:=(k,[x])::i}) (by simp[B])];simp only[nE,yg,yu];rfl
  have w:({H with bQ:=H.bQ.set t g3}:Hw).bQ[t]?=some g3:=by simp[B]
  unfold ir;simp only[VY hc,E,X,e2,e3,H6 w,Zr w,nE];show(if H.cf.dA<QS H.tb g3.ls then _ else _)=_
  simp only[g4];split<;>rfl
 have hg4:g4.ph=g.ph:=by simp only[g4];split<;>rfl
 have U:∀d y,lV g4.ls d y+lM g4.bP d y=lV g.ls d y+lM g.bP d y:=λd y=>by
  have M:=GF hl (dJ c x l).2 d y;have h2:=V y;have h3:lV g3.ls d y+lM g3.bP d y=lV g.ls d y+lM g.bP d y:=by
   simp only[g3];rw[C,K,Ku,Vu];by_cases hkk:(k:Int)=d
   ·simp only[hkk,zS]at M ⊢;omega
   ·simp only[hkk,jP]at M ⊢;omega
  simp only[g4];split
  ·have h4:=FC (f:=KE) PW (tb:=H.tb) (ls:=g3.ls) N d y;simp only[DN];omega
  ·exact h3
 have m:g4.ls.length=H.tb.length/\(∀l∈g4.ls,fJ l/\l.os.length<=128)/\(∀b∈g4.bP,b.1<H.tb.length/\b.2≠[]/\b.2.length<=256)/\g4.bP.length<=41:=by
  have hsl:=GL KE H.tb g3.ls;simp only[g4];split
  ·refine⟨C5 N,λl hl=>?_,λb p=>?_,by simp only[zO,g3]at *;omega⟩
   ·obtain⟨J,R,G,A,rfl⟩:=DV hl;have h5:=W G A;have:=FR J G;exact⟨Ir (h.ok J R) h5.1,O⟩
   ·rcases zK.1 p with p|p
    ·exact z b p
    ·obtain⟨b1,b2,J,_,G,A,b3⟩:=Cy p;have h5:=W G A;have:=FR J G;exact⟨b1,b2,by rw[b3];omega⟩
  ·exact⟨N,W,z,by simp only[g3];omega⟩
 have hs:Wt H t (.put k x)=({H with bQ:=H.bQ.set t g4},(if g4.bP=[]then none else some .back),0,0):=by
  show(ir H t k x,jO (ir H t k x) t,0,0)=_;rw[aa,BY (g:=g4) (by simp[B])]
 have e:=ZW B hs;have hi:=h.ke hg (g':={g4 with ph:=if g4.bP=[]then none else some .back}) (live':=H.live) (λd y=>by
  have M:=U d y;unfold gG;rw[hph];have:jA (if g4.bP=[]then none else some Ph.back) d y=0:=by split<;>rfl
  simp only[this];simp only[jA];omega) h.lk (λe' he=>.inl he) (λs a Y=>by
   simp only at Y;split at Y<;>cases Y) ⟨m.1,m.2.1,m.2.2.1,m.2.2.2,by
   unfold im;by_cases ho:g4.bP=[]
   ·simp only[ho,zS]
   ·simp only[ho,jP];exact ho⟩
 refine⟨iy.mk' hg r.hl ⟨L,by rw[E,K];simp⟩ e hi (KS.refl _),?_⟩;unfold nv;rw[e,hs];refine⟨rfl,?_,λ_=>⟨rfl,rfl⟩,λx hx=>by cases hx⟩;by_cases ho:g4.bP=[]
 ·exact .inr (by simp only;rw[zC ho])
 ·exact .inl ⟨.back,_,by simp only;rw[zB ho],trivial,(λy hy=>by cases hy),zL B,by simp only[pL];have:=m.2.2.2;omega⟩
end Go.Ar
namespace Go.Ar
open Go Go.Vc Go.Proofs
open Go.Bu (eV KZ UP)
variable {U u w w':Hp}{F B P Q:Rg}{L:dK}{H H':Hw}{t n:Nat}{g:Th}
def xR (size:Int):Int:=(size+255)/256*256
def GI (tb:List bZ)(size align:Int):Int×Int:=
 if size<=16384/\UB size align=true then(match gT tb size align with
  | some k=>((tb.getD k ⟨8,1,1⟩).size:Int)
  | none=>xR size,0)else(0,1)
theorem Ny {a:Int}(h1:1<=a)(h2:a<=256):(bits .and .i64 a (a-1) != 0) = !eV a:=by
 obtain⟨a,rfl⟩:=zc (show 0<=a by omega);rw[show(a:Int)-1=((a-1:Nat):Int) by omega,Go.Bu.iY O O,KZ,←UP O O];simp only[bne,Bool.not_inj_iff];rw[l5];simp only[zT];omega
def Q3 (sp:Sp)(x:Int):Int:=if eR sp x=0 then sp.wd (x.toNat/8)else 0
theorem EB (h:HH U F L H)(x:Int)(hx:x<=9223372036854775807){R:Int->Int->Hp->Prop}(hR:∀σ',bK U σ'->R (Q3 H.sp x) (eR H.sp x) σ'):YL.c (aW L.p) x U R:=O7 h x hx hR
end Go.Ar
namespace Go.Ar
open Go Go.Vc Go.Proofs
variable {U u w w':Hp}{F B P Q:Rg}{L:dK}{H H':Hw}{t n:Nat}{g:Th}
def Ki (H:Hw)(x:Int):Option Int:=(bV H.live x).map λb=>b.2.1
theorem CP {tb:List bZ}{size align:Int}{k:Nat}(h:gT tb size align=some k):k<tb.length:=(List.findIdx?_eq_some_iff_findIdx_eq.1 h).1
theorem GJ (h:HH U F L H)(x:Int){R:Int->Int->Hp->Prop}(hR:∀σ',bK U σ'->R ((Ki H x).getD 0) (if(Ki H x).isSome then 0 else 8) σ'):Xv.c (aW L.p) x U R:=by
 refine Sg h x λσ' e=>?_;have:=hR σ' e;unfold Ki at this;cases hm:bV H.live x with
 | none=>rw[hm]at this;exact this
 | some b=>rw[hm]at this;exact this
end Go.Ar
namespace Go.Ar
open Go.Vc (bV dB cR)
variable {H H':Hw}{held:List Pc}{s0:Sp}{t k j:Nat}{g:Th}{A:AR}{c:bZ}
theorem Kw (f:Th->Th)(hj:j≠t):(H.dT t f).bQ[j]?=H.bQ[j]? := by
 simp[Hw.dT,sT,Ne.symm hj]
theorem Nq (x:Int)(hj:j≠t):(ir H t k x).bQ[j]?=H.bQ[j]? := by
 unfold ir QI;simp only;split<;>split<;>simp only[Kw _ hj]
theorem NL (p:Ph)(hj:j≠t):(Wt H t p).1.bQ[j]?=H.bQ[j]? := by
 cases p with
 | take k=>simp only[Wt];split<;>simp only[Vt,Kw _ hj]
 | cI k w=>
  simp only[Wt];split
  ·split
   ·unfold QI;rw[Kw _ hj];rfl
   ·rfl
  ·rfl
 | cJ k w=>
  simp only[Wt];split
  ·rfl
  ·unfold QI;rw[Kw _ hj];rfl
 | grow k w=>simp only[Wt];split<;>rfl
 | fill=>simp only[Wt];split<;>simp only[Vt,Kw _ hj]
 | eD m=>simp only[Wt];split<;>rfl
 | find x=>
  simp only[Wt,UO];split
  ·rfl
  ·split
   ·rfl
   ·unfold QI;rw[Kw _ hj]
 | put k x=>exact Nq x hj
 | back=>
  simp only[Wt];split
  ·rw[As,Kw _ hj]
  ·rfl
 | dC s a=>simp only[Wt];split<;>rfl
 | drain=>simp only[Wt,Kw _ hj]
theorem Ud (p:Ph)(hj:j≠t):(Qu H t p).bQ[j]?=H.bQ[j]? := by
 unfold Qu eM;rw[Kw _ hj,NL p hj]
def fC (H:Hw)(j:Nat):Option Ph:=(H.bQ[j]?).bind (·.ph)
def vQ (H H':Hw)(t:Nat):Prop:=fC H' t=none/\∀j,j≠t->fC H' j=fC H j
theorem AB (h:HI H held s0)(hg:H.bQ[t]?=some g){p:Ph}(hp:g.ph=some p)(hf:¬lf p):∃cl sz,Rq H.tb g p cl sz:=by
 have b:=(h.th g (h.mem hg)).ph;unfold im at b;rw[hp]at b;cases p with
 | take k=>obtain⟨c,d,_⟩:=h.cls b.2;exact⟨_,_,rfl,c,d,rfl⟩
 | cI k w=>obtain⟨c,d,_⟩:=h.cls b.2.1;exact⟨_,_,rfl,c,d,rfl⟩
 | cJ k w=>obtain⟨c,d,_⟩:=h.cls b.2.1;exact⟨_,_,rfl,c,d,rfl⟩
 | grow k w=>obtain⟨c,d,_⟩:=h.cls b.2.1;exact⟨_,_,rfl,c,d,rfl⟩
 | fill=>
  obtain⟨k,x,j,e,i,_⟩:=b;obtain⟨c,d,_⟩:=h.cls i;exact⟨_,_,k,_,[],c,e,rfl,d,rfl⟩
 | eD m=>exact⟨_,_,rfl,rfl⟩
 | find x=>exact(hf trivial).elim
 | put k x=>exact(hf trivial).elim
 | back=>exact(hf trivial).elim
 | dC s a=>exact(hf trivial).elim
 | drain=>exact(hf trivial).elim
theorem qF (h:HI H held s0)(hg:H.bQ[t]?=some g){p:Ph}(hp:g.ph=some p){cl sz:Int}(hr:Rq H.tb g p cl sz):iy H t p/\sM H t p cl sz:=by
 cases p with
 | take k=>exact L9 h hg hp hr
 | cI k w=>exact Mr h hg hp hr
 | cJ k w=>exact Ln h hg hp hr
 | grow k w=>exact Lp h hg hp hr
 | fill=>exact JP h hg hp hr
 | eD m=>exact Le h hg hp hr
 | find x=>exact hr.elim
 | put k x=>exact hr.elim
 | back=>exact hr.elim
 | dC s a=>exact hr.elim
 | drain=>exact hr.elim
theorem qQ (h:HI H held s0)(hg:H.bQ[t]?=some g){p:Ph}(hp:g.ph=some p)(hf:lf p):iy H t p/\nv H t g p:=by
 cases p with
 | take k=>exact hf.elim
 | cI k w=>exact hf.elim
 | cJ k w=>exact hf.elim
 | grow k w=>exact hf.elim
 | fill=>exact hf.elim
 | eD m=>exact hf.elim
 | find x=>exact N5 h hg hp
 | put k x=>exact ML h hg hp
 | back=>exact JN h hg hp
 | dC s a=>exact Sm h hg hp
 | drain=>exact Nm h hg hp
open Classical in
theorem HI.Jw (h:HI H held s0)(hg:H.bQ[t]?=some g){p:Ph}(hp:g.ph=some p):iy H t p:=by
 by_cases hf:lf p
 ·exact(qQ h hg hp hf).1
 ·obtain⟨cl,b,a⟩:=AB h hg hp hf;exact(qF h hg hp a).1
theorem Hb {p:Ph}(ht:t<H.bQ.length):∃g',(Qu H t p).bQ[t]?=some g'/\g'.ph=(Wt H t p).2.1:=Ds ht
theorem Fp {cl sz:Int}:∀(n:Nat) {H:Hw} {held:List Pc} {s0:Sp} {g:Th} {p:Ph},HI H held s0->H.bQ[t]?=some g->g.ph=some p->Rq H.tb g p cl sz->oI H t p<=n →
 ∃m H' a e,iB m H t p H' a e/\(∃held s0,HI H' held s0)/\KS H.sp H'.sp/\vQ H H' t/\((e≠0/\a=0/\H'.live=H.live)\/(e=0/\bV H.live a=none/\H'.live=dB H.live a (a,sz,cl,XN H'.bX a)))
 | n,H,held,s0,g,p,h,hg,hp,hr,hn=>by
  have ht:=(cW.1 hg).1;obtain⟨s,E⟩:=qF h hg hp hr;have b:(Wt H t p).2.1=none->vQ H (Qu H t p) t:=λD=>by
   obtain⟨G,x,y⟩:=Hb (p:=p) ht;exact⟨by unfold fC;rw[x];exact y.trans D,λj u=>by unfold fC;rw[Ud p u]⟩
  rcases E with⟨p',G,e1,e2,e3,e4,e5⟩|⟨e1,e2,e3,e4⟩|⟨e1,e2,e3,e4⟩
  ·obtain⟨z,F,B⟩:=s.hi;obtain⟨J,i,kE⟩:=Hb (p:=p) ht;rw[e3]at i;cases i;have w:(Qu H t p).tb=H.tb:=(Uq H t p).1;have C:oI (Qu H t p) t p'<n:=by omega
   obtain⟨m,H',a,e,r,hi,ks,A,d⟩:=Fp (oI (Qu H t p) t p') B e3 (kE.trans e1) (by rw[w];exact e4) (zD _);refine⟨m+1,H',a,e,.next s.ok e1 r,hi,s.ks.trans ks,⟨A.1,λj u=>(A.2 j u).trans (by unfold fC;rw[Ud p u])⟩,?_⟩;rw[e2]at d;exact d
  ·exact⟨1,_,_,_,.done s.ok e1,s.hi,s.ks,b e1,.inl ⟨e2,e3,e4⟩⟩
  ·exact⟨1,_,_,_,.done s.ok e1,s.hi,s.ks,b e1,.inr ⟨e2,e3,e4⟩⟩
termination_by n=>n
theorem Eg:∀(n:Nat) {H:Hw} {held:List Pc} {s0:Sp} {g:Th} {p:Ph},HI H held s0->H.bQ[t]?=some g->g.ph=some p->lf p->pL g p<=n →
 ∃m H' e,iB m H t p H' 0 e/\(∃held s0,HI H' held s0)/\KS H.sp H'.sp/\vQ H H' t/\((∀x,p≠.find x)->e=0/\H'.live=H.live) ∧
  (∀x,p=.find x->(bV H.live x=none->e≠0/\H'.live=H.live)/\(∀b,bV H.live x=some b->e=0/\H'.live=cR H.live x))
 | n,H,held,s0,g,p,h,hg,hp,hf,hn=>by
  have ht:=(cW.1 hg).1;obtain⟨s,M,N,J,a⟩:=qQ h hg hp hf;rcases N with⟨p',B,e1,e2,e3,e4,e5⟩|e1
  ·obtain⟨D,P,K⟩:=s.hi;obtain⟨R,i,kE⟩:=Hb (p:=p) ht;rw[e4]at i;cases i;have L:pL B p'<n:=by omega
   obtain⟨m,H',e,r,hi,ks,E,y,_⟩:=Eg (pL B p') K e4 (kE.trans e1) e2 (zD _);obtain⟨G,F⟩:=y e3;refine⟨m+1,H',e,.next s.ok e1 r,hi,s.ks.trans ks,⟨E.1,λj u=>(E.2 j u).trans (by unfold fC;rw[Ud p u])⟩,λd=>⟨G,F.trans (J d).2⟩,λx d=>⟨λA=>?_,λb Q=>⟨G,F.trans ((a x d).2 b Q).2⟩⟩⟩;have:=((a x d).1 A).1;rw[e1]at this;cases this
  ·have w:vQ H (Qu H t p) t:=by
    obtain⟨B,z,C⟩:=Hb (p:=p) ht;exact⟨by unfold fC;rw[z];exact C.trans e1,λj u=>by unfold fC;rw[Ud p u]⟩
   have r:=iB.done (H:=H) (t:=t) s.ok e1;rw[M]at r;exact⟨1,_,_,r,s.hi,s.ks,w,J,λx d=>⟨λA=>((a x d).1 A).2,(a x d).2⟩⟩
termination_by n=>n
structure fY (H H':Hw):Prop where
 hi:∃held s0,HI H' held s0
 ks:KS H.sp H'.sp
 kp:Qv H' H
 ph:∀j,fC H' j=fC H j
theorem fY.refl (h:HI H held s0):fY H H:=⟨⟨held,s0,h⟩,KS.refl _,Qv.refl _,λ_=>rfl⟩
theorem fY.trans {H1 H2 H3:Hw}(a:fY H1 H2)(b:fY H2 H3):fY H1 H3:=⟨b.hi,a.ks.trans b.ks,a.kp.trans b.kp,λj=>(b.ph j).trans (a.ph j)⟩
theorem ER {tb:List bZ}{kind size align addr:Int}{p:Ph}(h:iG tb kind size align addr=some p)(hx:iE addr)(hh:g.bP=[]):im tb.length {g with ph:=some p}:=by
 unfold iG at h;split at h
 ·split at h
  ·split at h
   ·split at h
    ·rename_i k hk;cases h;exact⟨hh,CP hk⟩
    ·cases h;exact⟨hh,O,O⟩
   ·cases h
  ·cases h
 ·split at h
  ·cases h;exact⟨hh,hx⟩
  ·split at h
   ·cases h;exact hh
   ·cases h
theorem HI.eM (h:HI H held s0)(hg:H.bQ[t]?=some g)(hn:g.ph=none){p:Ph}(hp:im H.tb.length {g with ph:=some p})(hq:∀s a,p≠.dC s a):HI (eM H t (some p)) held s0:=by
 have b:=h.th g (h.mem hg);have e:Go.Ar.eM H t (some p) = {H with bQ:=H.bQ.set t {g with ph:=some p}}:=Zr hg _;rw[e];refine h.ke hg (live':=H.live) (λd x=>?_) h.lk (λj i=>.inl i) (λs a hp=>by cases hp;exact(hq s a rfl).elim) ⟨b.ll,b.lo,b.hb,b.hl,hp⟩;unfold gG;rw[hn];have:jA (some p) d x=0:=by
  cases p<;>first|rfl|exact(hq _ _ rfl).elim
 simp only[this];simp only[jA]
theorem Ey (h:HI H held s0)(hg:H.bQ[t]?=some g)(hn:g.ph=none):g.bP=[]:=by
 have:=(h.th g (h.mem hg)).ph;unfold im at this;rw[hn]at this;exact this
theorem H8 (H:Hw)(thread kind size align addr:Int):(∃e,Kg H thread kind size align addr=.inl e/\e≠0)\/∃(t:Nat) (p:Ph) (g:Th),thread=(t:Int)/\H.bQ[t]?=some g/\g.ph=none/\iG H.tb kind size align addr=some p/\Kg H thread kind size align addr=.inr (t,p):=by
 unfold Kg;split
 ·split
  ·split
   ·split
    ·rename_i hth _ g hg hn _ p hp;exact .inr ⟨thread.toNat,p,g,O,hg,hn,hp,rfl⟩
    ·exact .inl ⟨1,rfl,by decide⟩
   ·exact .inl ⟨5,rfl,by decide⟩
  ·exact .inl ⟨1,rfl,by decide⟩
 ·exact .inl ⟨1,rfl,by decide⟩
theorem S5 (hg:H.bQ[t]?=some g)(p:Option Ph)(hj:j≠t):fC (eM H t p) j=fC H j:=by
 unfold fC eM;rw[Kw _ hj]
theorem Ei (hg:H.bQ[t]?=some g)(hn:g.ph=none){p:Ph}(ps:vQ (eM H t (some p)) H' t):∀j,fC H' j=fC H j:=λj=>by
 by_cases hj:j=t
 ·subst hj;rw[ps.1];unfold fC;rw[hg];exact hn.symm
 ·rw[ps.2 j hj,S5 hg _ hj]
def qj (H:Hw)(size align:Int)(H':Hw)(a e:Int):Prop:=(e≠0/\a=0/\H'.live=H.live) ∨
 (e=0/\bV H.live a=none/\(1<=size/\size<=16384/\UB size align=true)/\∃cl,H'.live=dB H.live a (a,(GI H.tb size align).1,cl,XN H'.bX a)/\((∃k:Nat,cl=k/\gT H.tb size align=some k)\/cl = -1/\gT H.tb size align=none))
theorem Rl (h:HI H held s0)(thread size align:Int):∃H' a e,Ug H thread 0 size align 0 H' a e/\fY H H'/\qj H size align H' a e:=by
 rcases H8 H thread 0 size align 0 with⟨e,hs,hne⟩|⟨t,p,g,rfl,hg,hn,hq,hs⟩
 ·exact⟨H,0,e,.inl ⟨hs,hne,rfl,rfl⟩,fY.refl h,.inl ⟨hne,rfl,rfl⟩⟩
 ·have E:=Ey h hg hn;have w:=ER (g:=g) hq (by unfold iE;decide) E;unfold iG at hq;rw[zC rfl]at hq;split at hq
  ·rename_i hsz;split at hq
   ·rename_i hok;have b:GI H.tb size align=(match gT H.tb size align with
     | some k=>((H.tb.getD k ⟨8,1,1⟩).size:Int)
     | none=>xR size,0):=by
     unfold GI;rw[zC ⟨hsz.2,hok⟩]
     first|done | (cases gT H.tb size align<;>rfl)
    obtain⟨cl,d,y⟩:∃cl,Rq H.tb {g with ph:=some p} p cl (GI H.tb size align).1/\((∃k:Nat,cl=k/\gT H.tb size align=some k)\/cl = -1/\gT H.tb size align=none):=by
     cases hcv:gT H.tb size align with
     | some k=>
      rw[hcv]at hq b;cases hq;have j:=CP hcv;have z:H.tb[k]?=some H.tb[k]:=cT j;refine⟨k,⟨rfl,H.tb[k],z,?_⟩,.inl ⟨k,rfl,rfl⟩⟩;rw[b];simp only;rw[zP,z];rfl
     | none=>
      rw[hcv]at hq b;cases hq;refine⟨-1,⟨rfl,?_⟩,.inr ⟨rfl,rfl⟩⟩;rw[b];simp only;unfold xR;omega
    have x:∀s a,p≠.dC s a:=λs a e=>by subst e;exact d.elim
    have B:=h.eM hg hn w x;have u:(Go.Ar.eM H t (some p)).bQ[t]?=some {g with ph:=some p}:=by
     have C:=(cW.1 hg).1;have e:Go.Ar.eM H t (some p) = {H with bQ:=H.bQ.set t {g with ph:=some p}}:=Zr hg _;rw[e];simp[C]
    obtain⟨m,H',a,e,r,D,ks,A,i⟩:=Fp _ B u rfl d (zD _);refine⟨H',a,e,.inr ⟨t,p,m,hs,r⟩,⟨D,ks,(KF _ _ _).trans (F3 r),Ei hg hn A⟩,?_⟩;rcases i with⟨r1,r2,r3⟩|⟨r1,r2,r3⟩
    ·exact .inl ⟨r1,r2,r3⟩
    ·exact .inr ⟨r1,r2,⟨hsz.1,hsz.2,hok⟩,cl,r3,y⟩
   ·cases hq
  ·cases hq
def oH (H:Hw)(thread addr:Int)(H':Hw)(e:Int):Prop:=
 (e≠0/\H'=H/\Kg H thread 1 0 0 addr=.inl e)\/((∃p,Kg H thread 1 0 0 addr=.inr p)/\bV H.live addr=none/\e≠0/\H'.live=H.live)\/((∃p,Kg H thread 1 0 0 addr=.inr p)/\∃b,bV H.live addr=some b/\e=0/\H'.live=cR H.live addr)
theorem NA (h:HI H held s0)(hg:H.bQ[t]?=some g)(hn:g.ph=none){p:Ph}(hp:im H.tb.length {g with ph:=some p})(hf:lf p)(hq:∀s a,p≠.dC s a):∃m H' e,iB m (eM H t (some p)) t p H' 0 e/\fY H H'/\((∀x,p≠.find x)->e=0/\H'.live=H.live) ∧
 (∀x,p=.find x->(bV H.live x=none->e≠0/\H'.live=H.live)/\(∀b,bV H.live x=some b->e=0/\H'.live=cR H.live x)):=by
 have u:=h.eM hg hn hp hq;have d:(Go.Ar.eM H t (some p)).bQ[t]?=some {g with ph:=some p}:=by
  have w:=(cW.1 hg).1;have e:Go.Ar.eM H t (some p) = {H with bQ:=H.bQ.set t {g with ph:=some p}}:=Zr hg _;rw[e];simp[w]
 obtain⟨m,H',e,r,y,ks,i,z,j⟩:=Eg _ u d rfl hf (zD _);exact⟨m,H',e,r,⟨y,ks,(KF _ _ _).trans (F3 r),Ei hg hn i⟩,z,j⟩
theorem R3 (h:HI H held s0)(thread addr:Int)(hx:iE addr):∃H' e,Ug H thread 1 0 0 addr H' 0 e/\fY H H'/\oH H thread addr H' e:=by
 rcases H8 H thread 1 0 0 addr with⟨e,hs,hne⟩|⟨t,p,g,rfl,hg,hn,hq,hs⟩
 ·exact⟨H,e,.inl ⟨hs,hne,rfl,rfl⟩,fY.refl h,.inl ⟨hne,rfl,hs⟩⟩
 ·have d:=ER (g:=g) hq hx (Ey h hg hn);have j:p=.find addr:=by unfold iG at hq;simp at hq;exact hq.symm
  subst j;obtain⟨m,H',e,r,op,_,i⟩:=NA h hg hn d trivial (λs a e=>by cases e);refine⟨H',e,.inr ⟨t,_,m,hs,r⟩,op,?_⟩;cases hm:bV H.live addr with
  | none=>exact .inr (.inl ⟨⟨_,hs⟩,hm,(i addr rfl).1 hm⟩)
  | some b=>exact .inr (.inr ⟨⟨_,hs⟩,b,hm,(i addr rfl).2 b hm⟩)
end Go.Ar
namespace Go.Ar
open Go Go.Vc Go.Proofs
variable {U u w w':Hp}{F B P Q:Rg}{L:dK}{H H':Hw}{t n k:Nat}{A:AR}{Y:Lay}
theorem Fr.refl (A:AR):Fr A A:=⟨rfl,rfl,rfl⟩
theorem Fr.trans {A B C:AR}(h:Fr B A)(k:Fr C B):Fr C A:=⟨k.1.trans h.1,k.2.1.trans h.2.1,k.2.2.trans h.2.2⟩
end Go.Ar
namespace Go.Ar
variable {A:AR}
def qe (tb:List bZ)(n room m:Nat):Wd:=⟨tb,Vf n,List.replicate m (fo n room tb),[]⟩
theorem Ng {n room:Nat}{tb:List bZ}(h1:32<=n)(h2:n<=1024)(h3:n%16=0)(h6:tb.length<=40)(h7:∀c∈tb,c.ok):GA (fo n room tb)/\∀p,(fo n room tb).f p=0:=by
 have i:∀p,(fo n room tb).f p=0:=λp=>by
  show(List.replicate n 0).getD p 0=0;rw[zP,mr];split<;>rfl
 have b:∀{k:Nat} {g:List cF},(List.replicate tb.length ([]:List cF))[k]?=some g->g=[]:=λh=>by
  rw[mr]at h;split at h<;>simp at h;exact h
 have a:∀{k:Nat} {t:gF},(List.replicate tb.length (⟨0,[]⟩:gF))[k]?=some t->t.bs=[]:=λh=>by
  rw[mr]at h;split at h<;>simp at h;rw[←h]
 refine⟨⟨⟨by simp[fo],h1,h2,h3,λp=>by rw[i];omega,λp=>by rw[i];simp[fo],λp=>by rw[i];simp[fo,Go.Bu.iu],λp=>by rw[i,i]⟩,h6,by simp[fo],by simp[fo],λk c g d=>?_,λk c g d s m=>?_,λk c g d p=>?_,λp=>?_,λp=>.inr (Nat.zero_le _),by simp[fo],by simp[fo],λk t j=>?_,λk c g t d j=>?_,λk c t d j=>?_⟩,i⟩
 ·have e:=b d.2;subst e;exact⟨h7 c (zG d.1),by simp,by simp⟩
 ·have e:=b d.2;subst e;simp at m
 ·have e:=b d.2;subst e;constructor
  ·intro h;cases h
  ·rintro⟨s,m,_⟩;simp at m
 ·constructor
  ·intro h;cases h
  ·rintro⟨r,hr,_⟩;simp[fo]at hr
 ·have:=a j;rw[this];exact tx
 ·have:=a j;rw[this];simp
 ·have:=a j;rw[this];simp
theorem SQ {tb:List bZ}{n room m:Nat}(h1:32<=n)(h2:n<=1024)(h3:n%16=0)(h6:tb.length<=40)(h7:∀c∈tb,c.ok):WI (qe tb n room m):=by
 obtain⟨w,d⟩:=Ng (room:=room) h1 h2 h3 h6 h7;have get:∀{k:Nat} {A:AR},(qe tb n room m).bX[k]?=some A->A=fo n room tb:=λ{k A} h=>by
  have h:(List.replicate m (fo n room tb))[k]?=some A:=h;rw[mr]at h;split at h<;>simp at h;exact h.symm
 have b:∀p,gf (Vf n).st p=0:=λp=>by
  show(List.replicate n 0).getD p 0=0;rw[zP,mr];split<;>rfl
 refine⟨λk A h=>by rw[get h];exact w,λk A h=>?_,λk A h=>by rw[get h];rfl,λk A h p a=>by rw[get h];exact d p,λp a=>(a (b p)).elim,λp k l A B E G h1 h2=>?_,tx,λp a=>by simp[qe]at a,λk A h j y u=>?_,λk A h r x=>?_⟩
 ·rw[get h];exact⟨by simp[qe,Vf,fo],λp a=>(a (d p)).elim,λp a=>by rw[d p]at a;omega,λp=>by show gf (Vf n).st p<=2;rw[b];omega⟩
 ·rw[get E]at h1;exact(h1 (d p)).elim
 ·rw[get h]at u;obtain⟨c,z,g,C⟩:=u;have e:z=[]:=by
   have h2:=g.2;simp only[fo]at h2;rw[mr]at h2;split at h2<;>simp at h2;exact h2
  subst e;obtain⟨F,s,i,D,_⟩:=(Vz (w.cE _ _ _ g)).1 C;simp at D
 ·rw[get h]at x;simp[fo]at x
end Go.Ar
namespace Go.Ar
open Go.Vc (bV dB cR)
variable {H H':Hw}{held:List Pc}{s0:Sp}{t k j:Nat}{g:Th}{A:AR}{c:bZ}
theorem LF {tb:List bZ}{cf:Cf}(h1:32<=cf.aF)(h2:cf.aF<=1024)(h3:cf.aF%16=0)(h4:1<=cf.gW)(h6:tb.length<=40)(h7:∀c∈tb,c.ok):HI (VM tb cf) [] (Vf cf.aF):=by
 have u:=SQ (tb:=tb) (n:=cf.aF) (room:=cf.room) (m:=cf.gW) h1 h2 h3 h6 h7;have d:∀g∈(VM tb cf).bQ,g=⟨List.replicate tb.length ik,[],none⟩:=λg i=>(ym.1 i).2;have r:∀k,(List.replicate tb.length ik).getD k ik=ik:=λk=>by
  rw[zP,mr];split<;>rfl
 refine⟨u,jo.refl _,λk x=>?_,tx,λe A=>by simp[VM]at A,λg i s a j=>?_,λg i=>?_,h7,?_,?_⟩
 ·have y:∀(n:Nat) (f:Th->Nat) (g:Th),f g=0->((List.replicate n g).map f).sum=0:=λn f g h=>by
   rw[uI,h]
   induction n with
   | zero=>rfl
   | succ n ih=>rw[vR,nM,ih]
  have z:gG ⟨List.replicate tb.length ik,[],none⟩ k x=0:=by
   unfold gG lV;split
   ·simp only[r];rfl
   ·rfl
  have:qJ (VM tb cf) k x=0:=by
   unfold qJ;show l8 [] k x+((List.replicate cf.threads (⟨List.replicate tb.length ik,[],none⟩:Th)).map λg=>gG g k x).sum=0;rw[y _ _ _ z];rfl
  rw[this,Q6];rintro⟨p,j,_⟩;simp at j
 ·rw[d g i]at j;cases j
 ·rw[d g i];refine⟨by simp[VM],λl B=>?_,λb w=>by simp at w,by simp,by unfold im;rfl⟩;rw[(ym.1 B).2];exact⟨fJ.nil,by simp[ik]⟩
 ·show 1<=(List.replicate cf.gW (fo cf.aF cf.room tb)).length;simpa using h4
 ·show(List.replicate cf.aF 0).length=cf.aF;simp
def KL (H H':Hw):Prop:=∀e∈H.live,∀w:Nat,e.1<=((8*w:Nat):Int)->((8*w:Nat):Int)<e.1+e.2.2.1->H'.sp.wd w=H.sp.wd w
theorem HI.yM (h:HI H held s0):WI ⟨H.tb,s0,H.bX,held⟩:=h.wi
theorem HI.mapped (h:HI H held s0){p:Pc}(hp:p∈held){x:Nat}(h1:p.addr<=x)(h2:x<p.addr+p.size):gf H.sp.st (x/256)≠0:=by
 obtain⟨A,a,_⟩:=h.wi.hf p hp;have e1:=h.wi.qI hp a h1 h2;have:=(h.wi.ow _ A a).own (x/256) O;intro hz;exact this ((h.m5.z _).1 hz)
theorem HI.kl (h:HI H held s0)(k:KS H.sp H'.sp):KL H H':=λe b w j g=>by
 obtain⟨_,p,d,_,_,i,m,_⟩:=h.lv e b;have a:=h.mapped d (x:=8*w) O O;exact(k.k _ a).2 w O
theorem KL.refl (H:Hw):KL H H:=λ_ _ _ _ _=>rfl
theorem KL.trans {H1 H2 H3:Hw}(a:KL H1 H2)(b:KL H2 H3)(hl:∀e∈H1.live,e∈H2.live):KL H1 H3:=λe g w i d=>(b e (hl e g) w i d).trans (a e g w i d)
structure mn (H H':Hw):Prop where
 hi:∃held s0,HI H' held s0
 live:H'.live=H.live
 bQ:H'.bQ=H.bQ
 kp:Qv H' H
 kl:KL H H'
theorem mn.refl (h:HI H held s0):mn H H:=⟨⟨_,_,h⟩,rfl,rfl,Qv.refl _,KL.refl _⟩
theorem mn.trans {H1 H2 H3:Hw}(a:mn H1 H2)(b:mn H2 H3):mn H1 H3:=⟨b.hi,b.live.trans a.live,b.bQ.trans a.bQ,a.kp.trans b.kp,a.kl.trans b.kl λe d=>by rw[a.live];exact d⟩
theorem HI.n (h:HI H held s0)(hk:H.bX[k]?=some A):A.n=H.cf.aF:=by
 have:=(h.wi.ow k A hk).l;have b:=h.m5.l;have a:=h.sl;simp only at this;omega
theorem WI.wd {W:Wd}(h:WI W)(f:Nat->Int):WI {W with sp:={W.sp with wd:=f}}:=
 ⟨h.ga,λk A hk=>⟨(h.ow k A hk).l,(h.ow k A hk).own,(h.ow k A hk).cl,(h.ow k A hk).le⟩,h.tb,h.low,h.own,h.one,h.hk,h.hf,h.ht,h.hr⟩
theorem PJ {sp:Sp}{x:Int}(h:eR sp x=0):0<=x/\x%8=0/\gf sp.st (x.toNat/256)≠0:=by
 unfold eR at h;split at h
 ·cases h
 ·split at h
  ·cases h
  ·exact⟨O,O,by assumption⟩
theorem DM (sp:Sp)(x v:Int):(ZX sp x v).st.length=sp.st.length/\(∀p,gf (ZX sp x v).st p=0↔gf sp.st p=0)/\∀w,(ZX sp x v).wd w=if eR sp x=0/\w=x.toNat/8 then v else sp.wd w:=by
 unfold ZX;split
 ·rename_i h0;have a:=PJ h0;refine⟨by simp[np],λp=>?_,λw=>?_⟩
  ·show gf (sp.st.set (x.toNat/8/32) 2) p=0↔_;have b:x.toNat/8/32=x.toNat/256:=by omega
   rw[b];unfold gf at a ⊢;rw[zP]at a ⊢;rw[zP,mU];split
   ·rename_i he;split
    ·rw[←he];simp only[pF];exact⟨λh=>O,λh=>(a.2.2 h).elim⟩
    ·rename_i hl;rw[zV O]at a;exact(a.2.2 rfl).elim
   ·exact Iff.rfl
  ·show(if w=x.toNat/8 then v else sp.wd w)=_
   by_cases hw:w=x.toNat/8
   ·rw[zC hw,zC ⟨h0,hw⟩]
   ·rw[zB hw,zB λh=>hw h.2]
 ·exact⟨rfl,λ_=>Iff.rfl,λw=>by rw[zB λh=>by have:=h.1;contradiction]⟩
theorem HI.write (h:HI H held s0)(x v:Int):HI {H with sp:=ZX H.sp x v} held {s0 with wd:=(ZX H.sp x v).wd}:=by
 obtain⟨a,b,_⟩:=DM H.sp x v;exact⟨h.wi.wd _,⟨a.trans h.m5.l,λp=>(b p).trans (h.m5.z p),rfl⟩,h.cn,h.lk,h.lv,h.gv,h.th,h.ok,h.a1,a.trans h.sl⟩
end Go.Ar
namespace Go.Ar
open Go Go.Vc Go.Proofs
variable {U u w w':Hp}{F B P Q:Rg}{L:dK}{H H':Hw}{t n:Nat}{g:Th}
end Go.Ar
namespace Go.Proofs
open Go.Vc
set_option maxRecDepth 100000
def WQ.h:Hn:=.q .o2 (.q (.q (.cS (.seq [.op,.op,.op,.cX false 2 [.op,.op]])) .aJ) (.q .o1 (.q .o1 (.q (.k (.loop [(4,.one .s),(5,.I)] (.q (.q .o2 (.c .l .l)) (.k (.q .o7 .o6))))) (.q .o6 (.q .o1 (.q (.q .o1 (.k (.loop [(6,.one .s),(7,.I)] (.q (.q .o4 (.c .l .l)) (.q (.k (.q (.cS (.ib true [] [(70,.one .b)] (.tk [0,1,2,3,4,5] (.split 43 (.tk [6,7,8,9,10,11,12,13,14,15,16,17,18,19,20,21,22,23,24,25,26,27,28,29,30,31,32] (.done)) (.tk [6,7,8,9,10,11,12,13,14,15,16,17,18,19] (.split 57 (.tk [20,21,22,23,24,25,26,27,28,29,30,31,32] (.done)) (.tk [20,21,22,23,25,26,27,28,29] (.all [(24,.all [(30,.take 31 (.take 32 (.done)))])])))))))) (.c .o8 .l))) .o3))))) (.q .o3 .l))))))))
def WQ.v (a:Int)(b:Hp)(c:Sl->Int->Hp->Prop):Prop:=bW (λd e=>If d (c ⟨none,0,0⟩ 1 e) (X9 [.s,bN] (λf=>f ⟨none,0,0⟩ 8 e) λg (h:Sl) (i:Int) j=>If (i<512) (Xe.c i a j λk l m n=>aV #[.I k,.I l,.I m] 137 n λo p=>App h 3 24 137 [.I 0,.I 0,.I 0] ⟨some o,1,1⟩ p λq r=>XK.c i a r λs t=>bL (i+s) λu=>g q u t) (Xe.c 512 a j λv w x y=>aV #[.I v,.I w,.I x] 137 y λz aa=>App h 3 24 137 [.I 0,.I 0,.I 0] ⟨some z,1,1⟩ aa λab ac=>X9 [.s,bN] (λad=>ad ⟨none,0,0⟩ 0 ac) λae (af:Sl) (ag:Int) ah=>If (ag<((ab.len:Nat):Int)) (Jn [.b] (λ(ai:Bool) aj=>If ai (Ix ab.a ab.len ag 3 λak=>aQ ak 0 aj λal=>aQ ak 1 aj λam=>aQ ak 2 aj λan=>aV #[.I al,.I am,.I an] 137 aj λao ap=>App af 3 24 137 [.I 0,.I 0,.I 0] ⟨some ao,1,1⟩ ap λaq ar=>bL (ag+1) λau=>ae aq au ar) (bL (ag+1) λav=>ae af av aj)) λaw=>eN ah λax=>bL (((ab.len:Nat):Int)-1) λay=>If (ag==ay) (aw true ah) (Ix ab.a ab.len ag 3 λaz=>aS ax az 1 λa0=>bL (ag+1) λa1=>Ix ab.a ab.len a1 3 λa2=>aS ax a2 1 λa3=>If (a0 != a3) (aw true ah) (Ix ab.a ab.len ag 3 λa4=>aS ax a4 0 λa5=>aS ax a4 1 λa6=>aS ax a4 2 λa7=>bL (ag+1) λa8=>Ix ab.a ab.len a8 3 λa9=>aS ax a9 0 λba=>aS ax a9 1 λbb=>aS ax a9 2 λbc=>WM.c a5 a6 a7 ah λbd be=>
 And (ax be) <| WM.c ba bb bc be λbf bg=>And (ax bg) <| aw (bd != bf) bg))) (c af 0 ah)))) λbh=>If (a<2) (bh true b) (bh (decide (a>16)) b)
theorem WQ.o {a b c}(d:WQ.v a b c):WQ.c a b c:=Wa Tryz.func100 (x:=WQ.h) (R0 d)
def Xe.h:Hn:=.q .o1 (.q .o8 (.q (.q .o1 (.k (.loop [(6,.I)] (.q (.q .o2 (.c .l .l)) (.q (.k (.q (.cS (.seq [.op,.op,.op,.op,.op,.cX true 9 (RI.ops 9)])) (.c .o3 .l))) .o3))))) .aL))
def Xe.v (a b:Int)(c:Hp)(d:Int->Int->Int->Hp->Prop):Prop:=aV #[.I 0,.I 0,.I 0] 137 c λe f=>Nz a<|bL ((512:Int).tdiv a) λg=>aV #[.I 0,.I 0,.I 0] 137 f λh i=>aR h 0 (.I a) i λj=>aR h 1 (.I 4) j λk=>aR h 2 (.I (if 32<(if 2>g then 2 else g)then 32 else(if 2>g then 2 else g))) k λl=>X9 [bN] (λm=>m 4 l) λn (o:Int) p=>If (o≥1) (bL (o*256) λq=>bW (λr s=>If r (aR h 1 (.I o) s λt=>bL (o-1) λu=>n u t) (bL (o-1) λv=>n v s)) λw=>If (q≥a) (bL (o*256) λx=>Nz a <| bL (b*(x.tmod a)) λy=>bL (o*256) λz=>w (decide (y<=z)) p) (w false p)) (aQ h 0 p λaa=>aQ h 1 p λab=>aQ h 2 p λac=>aR e 0 (.I aa) p λad=>aR e 1 (.I ab) ad λae=>aR e 2 (.I ac) ae λaf=>aQ e 0 af λag=>aQ e 1 af λah=>aQ e 2 af λai=>d ag ah ai af)
theorem Xe.o {a b c d}(e:Xe.v a b c d):Xe.c a b c d:=Wa Tryz.func137 (x:=Xe.h) (R0 e)
def XK.h:Hn:=.q .o1 (.q .o1 (.q (.k (.loop [(5,.I)] (.q (.q .o6 (.c .l .l)) (.k .o3)))) .aL))
def XK.v (a b:Int)(c:Hp)(d:aN):Prop:=X9 [bN] (λe=>e 8 c) λf (g:Int) h=>bL (2*g) λi=>Nz b<|bL (a.tdiv b) λj=>If (i<=j) (bL (2*g) λk=>f k h) (d g h)
theorem XK.o {a b c d}(e:XK.v a b c d):XK.c a b c d:=Wa Tryz.func138 (x:=XK.h) (R0 e)
def WM.h:Hn:=.q .o2 (.q .o1 (.q (.k (.loop [(3,.I)] (.q (.q .o9 (.c .l .l)) (.k .o3)))) .aL))
def WM.v (a b c:Int)(d:Hp)(e:aN):Prop:=aV #[.I a,.I b,.I c] 137 d λf g=>X9 [bN] (λh=>h 0 g) λi (j:Int) k=>bL (j+1) λl=>aQ f 0 k λm=>bL (l*m) λn=>aQ f 1 k λo=>bL (o*256) λp=>If (n<=p) (bL (j+1) λq=>i q k) (e j k)
theorem WM.o {a b c d e}(f:WM.v a b c d e):WM.c a b c d e:=Wa Tryz.func139 (x:=WM.h) (R0 f)
end Go.Proofs
namespace Go.Ar
open Go Go.Vc Go.Proofs
variable {U w:Hp}
abbrev T3:=Int×Int×Int
def v3 (x:T3):List Value:=[.int .i64 x.1,.int .i64 x.2.1,.int .i64 x.2.2]
def j9 (l:List T3):List Value:=l.flatMap v3
theorem Ub (l:List T3):(j9 l).length=l.length*3:=by
 induction l with
 | nil=>rfl
 | cons x l ih=>simp only[j9,nG,zO,v3,zY,lE]at *;omega
theorem Bj (l:List T3)(x:T3):j9 (l++[x])=j9 l++v3 x:=by simp[j9]
theorem HJ:∀{l:List T3} {i:Nat} {x:T3},l[i]?=some x->∀{d:Nat},d<3->(j9 l)[i*3+d]?=(v3 x)[d]?
 | [],_,_,h,_,_=>by simp at h
 | y::l,0,x,h,d,hd=>by
  simp at h;subst h;have e:j9 (y::l)=v3 y++j9 l:=rfl;rw[e,ze (by simp[v3];omega)];congr 1;omega
 | y::l,i+1,x,h,d,hd=>by
  have e:j9 (y::l)=v3 y++j9 l:=rfl;have a:(v3 y).length=3:=rfl;rw[e,zr O,a,show(i+1)*3+d-3=i*3+d by omega];exact HJ (by simpa using h) hd
theorem Dp {Q:Rg}{s:Sl}{l:List T3}(h:Go.Vc.Own Q U s 3 (j9 l)):ig U s l:=by
 have u:=h.1;rw[Ub]at u;refine⟨O,λi x y z d=>?_⟩;obtain⟨b,e,g⟩:=h.cell (j:=i*3+0) (v:=.int .i64 x) ((HJ d O).trans rfl);obtain⟨r,a,p⟩:=h.cell (j:=i*3+1) (v:=.int .i64 y) ((HJ d O).trans rfl);rw[e]at a;cases a;obtain⟨r,a,m⟩:=h.cell (j:=i*3+2) (v:=.int .i64 z) ((HJ d O).trans rfl);rw[e]at a;cases a;refine⟨b,0,e,Q8 g,?_,?_,?_⟩
 ·rw[show 0+i*3=i*3+0 by omega];exact g
 ·rw[show 0+i*3+1=i*3+1 by omega];exact p
 ·rw[show 0+i*3+2=i*3+2 by omega];exact m
def sG (s w:Int)(n:Nat):Int:=([4,3,2,1].take n).foldl (λ(r p:Int)=>if s<=p*256/\w*((p*256)%s)<=p*256 then p else r) 4
def x8 (s:Int):Int:=min 32 (max 2 (512/s))
def kV (s w:Int):T3:=(s,sG s w 4,x8 s)
def vC:Nat->Int->Int->Int
 | 0,d,_=>d
 | n+1,d,q=>if 2*d<=q then vC n (2*d) q else d
def wm (s w:Int):Int:=vC 8 8 (s/w)
def mh (x:T3):Int:=x.2.1*256/x.1
theorem OI (s w:Int)(n:Nat):1<=sG s w n/\sG s w n<=4:=by
 have key:∀(l:List Int) (r:Int),(∀p∈l,1<=p/\p<=4)->1<=r/\r<=4->1<=l.foldl (λ(r p:Int)=>if s<=p*256/\w*((p*256)%s)<=p*256 then p else r) r/\l.foldl (λ(r p:Int)=>if s<=p*256/\w*((p*256)%s)<=p*256 then p else r) r<=4:=by
  intro l
  induction l with
  | nil=>intro r _ h;exact h
  | cons p l ih=>
   intro r hl hr;rw[qA];refine ih _ (λq b=>hl q (nA _ b)) ?_;split
   ·exact hl p oT
   ·exact hr
 refine key _ _ (λp a=>?_) O;have:=ve a;simp at this;omega
theorem EN (s w:Int)(h1:8<=s)(h2:s<=512)(hw1:2<=w)(hw2:w<=16){R:Int->Int->Int->Hp->Prop}(hR:∀σ',bK U σ'->R (kV s w).1 (kV s w).2.1 (kV s w).2.2 σ'):Xe.c s w U R:=by
 refine Xe.o ?_;unfold Xe.v;have P:1<=512/s/\512/s<=64:=⟨by rw[Int.le_ediv_iff_mul_le O];omega,Int.ediv_le_of_le_mul O O⟩;refine nw (cs:=[.int .i64 0,.int .i64 0,.int .i64 0]) λv hz e V=>nz O (ar (by rw[Yr O];omega) (by rw[Yr O];omega) ?_);rw[Yr O];refine nw (cs:=[.int .i64 0,.int .i64 0,.int .i64 0]) λv1 aa e1 C=>C.s1 aA λv2 o2 B=>B.s1 aA λL o3 g=>g.s1 aA λv4 o4 b4=>?_;have b:U.size≠v.size:=by omega
 have y:=Ws o4 (Ws o3 (Ws o2 (e1.bT V id) b) b) b;have N:bK U v4:=((((e.trans e1).only o2 (.inr O)).only o3 (.inr O)).only o4 (.inr O));have m:(if 32<(if 2>512/s then 2 else 512/s)then 32 else(if 2>512/s then 2 else 512/s))=x8 s:=by unfold x8;omega
 rw[m]at b4;refine Z0 (a:=bN) (λ(z:Int) u=>∃n:Nat,n<=4/\z=4-(n:Int)/\bK U u/\bY u U.size [.int .i64 0,.int .i64 0,.int .i64 0]/\bY u v.size [.int .i64 s,.int .i64 (sG s w n),.int .i64 (x8 s)]) (λz _=>z.toNat) ⟨0,O,rfl,N,y,b4⟩ ?_;rintro(z:Int) u ⟨n,hn,rfl,eu,hu,bu⟩;refine cQ (λY=>?_) λW=>?_
 ·have X:n<4:=by omega
  have d:sG s w (n+1)=if s<=(4-(n:Int))*256/\w*(((4-(n:Int))*256)%s)<=(4-(n:Int))*256 then 4-(n:Int)else sG s w n:=by
   have Q:([4,3,2,1]:List Int)[n]?=some (4-(n:Int)):=by
    rcases(show n=0\/n=1\/n=2\/n=3 by omega)with rfl|rfl|rfl|rfl<;>rfl
   unfold sG;rw[k8,Q,wX];rfl
  refine ar O O ?_;refine KJ (λr G=>G=u/\r=decide (s<=(4-(n:Int))*256/\w*(((4-(n:Int))*256)%s)<=(4-(n:Int))*256)) (λr G ⟨D,x⟩=>?_) λJ F=>?_
  ·subst D;by_cases hc:s<=(4-(n:Int))*256/\w*(((4-(n:Int))*256)%s)<=(4-(n:Int))*256
   ·rw[zJ hc]at x;rw[zC hc]at d;refine cD x (bu.s1 aA λZ o1 A=>ar O O ⟨⟨n+1,O,O,eu.only o1 (.inr O),Ws o1 hu b,by rw[d];exact A⟩,O⟩)
   ·rw[zM hc]at x;rw[zB hc]at d;exact cB x (ar O O ⟨⟨n+1,O,O,eu,hu,by rw[d];exact bu⟩,O⟩)
  ·have j:=Int.emod_nonneg ((4-(n:Int))*256) (show s≠0 by omega);have K:=Int.emod_lt_of_pos ((4-(n:Int))*256) (show 0<s by omega);have S:w*(((4-(n:Int))*256)%s)<=16*512:=Int.mul_le_mul hw2 O j O;have M:0<=w*(((4-(n:Int))*256)%s):=Int.mul_nonneg O j;refine cQ (λh1=>ar O O (nz O ?_)) λh1=>F _ _ ⟨rfl,(zM λp=>h1 p.1).symm⟩;rw[Qz O];refine ar O O (ar O O (F _ _ ⟨rfl,?_⟩));rw[decide_eq_decide];exact⟨λp=>⟨h1,p⟩,λp=>p.2⟩
 ·have E:n=4:=by omega
  subst E;refine bu.rI rfl (bu.rI rfl (bu.rI rfl (hu.s1 aA λZ o1 A=>A.s1 aA λu2 o2 B=>B.s1 aA λH o3 g=>g.rI rfl (g.rI rfl (g.rI rfl (hR H ?_))))));exact((eu.only o1 (.inr O)).only o2 (.inr O)).only o3 (.inr O)
theorem SN (s w:Int)(h1:8<=s)(h2:s<=512)(hw1:2<=w){R:aN}(hR:8<=wm s w->wm s w<=256->R (wm s w) U):XK.c s w U R:=by
 refine XK.o ?_;unfold XK.v;have g:0<=s/w/\s/w<=256:=⟨Int.ediv_nonneg O O,by
  have:s/w<=s/2:=by
   apply Int.le_ediv_of_mul_le O;have:=Int.ediv_mul_le s (show w≠0 by omega);have j:s/w*2<=s/w*w:=Int.mul_le_mul_of_nonneg_left hw1 (Int.ediv_nonneg O O);omega
  omega⟩
 refine Z0 (a:=bN) (λ(d:Int) u=>u=U/\∃n:Nat,vC n d (s/w)=wm s w/\8<=d/\d<=256/\512<=d*2^n) (λd _=>1000-d.toNat) ⟨rfl,8,rfl,O,O,by decide⟩ ?_;rintro(d:Int) u ⟨rfl,n,hst,hd1,hd2,hdn⟩;refine ar O O (nz O (ar (by rw[Yr O];omega) (by rw[Yr O];omega) ?_));rw[Yr O];cases n with
 | zero=>simp at hdn;omega
 | succ n=>
  refine cQ (λb=>ar O O ⟨⟨rfl,n,?_,O,O,?_⟩,O⟩) λe=>?_
  ·rw[vC,zC b]at hst;exact hst
  ·rw[Int.pow_succ]at hdn;have:2*d*2^n=d*(2^n*2):=by rw[Int.mul_comm 2 d,Int.mul_assoc,Int.mul_comm 2 (2^n)]
   omega
  ·rw[vC,zB e]at hst;rw[←hst]at hR;exact hR hd1 hd2
theorem F0 (x:T3)(h1:8<=x.1)(h2:x.1<=512)(h3:1<=x.2.1)(h4:x.2.1<=4){R:aN}(hR:∀σ',bK U σ'->R (mh x) σ'):WM.c x.1 x.2.1 x.2.2 U R:=by
 refine WM.o ?_;unfold WM.v;refine nw (cs:=[.int .i64 x.1,.int .i64 x.2.1,.int .i64 x.2.2]) λv w e j=>?_;refine Z0 (a:=bN) (λ(n:Int) u=>bK U u/\bY u U.size [.int .i64 x.1,.int .i64 x.2.1,.int .i64 x.2.2]/\0<=n/\n<=128/\n*x.1<=x.2.1*256) (λn _=>1000-n.toNat) ⟨e,j,O,O,O⟩ ?_;rintro(n:Int) u ⟨eu,bu,hn0,hn1,hn⟩;have p:(n+1)*x.1<=129*512:=Int.mul_le_mul O h2 O O;have m:0<=(n+1)*x.1:=Int.mul_nonneg O O;refine ar O O (bu.rI rfl (ar O O (bu.rI rfl (ar O O ?_))));refine cQ (λb=>ar O O ⟨⟨eu,bu,O,?_,b⟩,O⟩) λg=>?_
 ·have:(n+1)*8<=(n+1)*x.1:=Int.mul_le_mul_of_nonneg_left h1 O;omega
 ·have:mh x=n:=by
   unfold mh;have r:n<=x.2.1*256/x.1:=(Int.le_ediv_iff_mul_le O).2 hn;have s:x.2.1*256/x.1<n+1:=(Int.ediv_lt_iff_lt_mul O).2 O;omega
  have d:=hR u eu;rw[this]at d;exact d
end Go.Ar