/- Texts joined. -/
import Derived.Test.YteihenagckcobaaGreatDoorI5
set_option linter.unusedVariables false
set_option linter.unusedSimpArgs false
namespace Go.Ar
variable {c:bZ}{ss:List cG}
structure dF (c:bZ) (ss:List cG):Prop where
 ok:c.ok
 tk:∀s∈ss,s.tk.length=c.n
 rY:ss.Pairwise λa b=>a.st+c.aF<=b.st
def Tk (c:bZ)(ss:List cG)(x:Int):Prop:=dX c ss x=some true
def uw (c:bZ)(ss:List cG)(p:Nat):Prop:=∃s∈ss,s.st<=p/\p<s.st+c.aF
theorem dF.pos (h:dF c ss):0<c.size:=by have:=h.ok;unfold bZ.ok at this;omega
theorem dF.pg (h:dF c ss):1<=c.aF:=by have:=h.ok;unfold bZ.ok at this;omega
theorem dF.pM (h:dF c ss):ss.Pairwise λa b=>a.st<b.st:=h.rY.imp λ{a b} d=>by have:=h.pg;omega
theorem dF.sd (h:dF c ss){i j:Nat}{s t:cG}(hi:ss[i]?=some s)(hj:ss[j]?=some t)(hij:i<j):s.st+c.aF<=t.st:=by
 obtain⟨b,rfl⟩:=cW.1 hi;obtain⟨a,rfl⟩:=cW.1 hj;exact mg.1 h.rY i j b a hij
theorem dF.vv (h:dF c ss){i j:Nat}{s t:cG}{p:Nat}(hi:ss[i]?=some s)(hj:ss[j]?=some t)(h1:s.st<=p)(h2:p<s.st+c.aF)(h3:t.st<=p)(h4:p<t.st+c.aF):i=j:=by
 rcases px i j with hl|hl|hl
 ·have:=h.sd hi hj hl;omega
 ·exact hl
 ·have:=h.sd hj hi hl;omega
theorem CF (hp:0<c.size){s:cG}{i:Nat}(hi:i<c.n):s.st*256<=at_ c s i/\at_ c s i+c.size<=(s.st+c.aF)*256:=by
 have b:=bZ.wm c;have a:(i+1)*c.size<=c.n*c.size:=lX _ hi;unfold at_;rw[zm]at a;omega
theorem Hi (hp:0<c.size){s:cG}{i x:Nat}(hi:i<c.n)(h1:at_ c s i<=x)(h2:x<at_ c s i+c.size):s.st<=x/256/\x/256<s.st+c.aF:=by
 have:=CF hp (s:=s) hi;omega
theorem V8 (h:dF c ss){k l:Nat}{s t:cG}{i j x:Nat}(hk:ss[k]?=some s)(hl:ss[l]?=some t)(hi:i<c.n)(hj:j<c.n)(h1:at_ c s i<=x)(h2:x<at_ c s i+c.size)(h3:at_ c t j<=x)(h4:x<at_ c t j+c.size):k=l/\s=t/\i=j:=by
 have a:=Hi h.pos hi h1 h2;have b:=Hi h.pos hj h3 h4;have e:=h.vv hk hl a.1 a.2 b.1 b.2;subst e;rw[hk]at hl;cases hl;refine⟨rfl,rfl,?_⟩;unfold at_ at *;have d:=h.pos;rcases px i j with hl|hl|hl
 ·have:(i+1)*c.size<=j*c.size:=lX _ hl;rw[zm]at this;omega
 ·exact hl
 ·have:(j+1)*c.size<=i*c.size:=lX _ hl;rw[zm]at this;omega
theorem Ah (h:dF c ss){s:cG}(hs:s∈ss){x:Int}{i:Nat}(hi:idx c s x=some i):i<c.n/\((s.st*256:Nat):Int)<=x/\x<(((s.st+c.aF)*256:Nat):Int)/\((at_ c s i:Nat):Int)<=x/\x<((at_ c s i+c.size:Nat):Int):=by
 obtain⟨d,b,a⟩:=(VM h.pos).1 hi;rw[h.tk s hs]at a;have:=CF h.pos (s:=s) a;have e:at_ c s (i+1)=at_ c s i+c.size:=by unfold at_;rw[zm];omega
 rw[e]at b;omega
theorem Dp (h:dF c ss){k:Nat}{s:cG}{x:Int}{i:Nat}(hs:ss[k]?=some s)(hi:idx c s x=some i):kE c ss x=some k:=by
 obtain⟨p,g⟩:=cW.1 hs;refine nk.2 ⟨p,by rw[g,hi];rfl,λj m r=>?_⟩;have d:j<ss.length:=by omega
 obtain⟨u,e⟩:=pq.1 r;have a:=Ah h (zG hs) hi;have b:=Ah h (j4 d) e;have:=h.sd (cV d) hs m;omega
theorem E5 (h:dF c ss){x:Int}{b:Bool}:dX c ss x=some b↔∃(k:Nat) (s:cG) (i:Nat),ss[k]?=some s/\i<c.n/\x=((at_ c s i:Nat):Int)/\s.is i=b:=by
 constructor
 ·intro hx;obtain⟨k,s,i,_,a,d,g⟩:=Gk hx;obtain⟨m,j⟩:=(Up h.pos).1 d;rw[h.tk s (zG a)]at j;exact⟨k,s,i,a,j,m,g⟩
 ·rintro⟨k,s,i,a,hi,rfl,g⟩;have p:=h.tk s (zG a);have d:obj c s ((at_ c s i:Nat):Int)=some i:=(Up h.pos).2 ⟨rfl,O⟩;have e:idx c s ((at_ c s i:Nat):Int)=some i:=(VM h.pos).2 ⟨vS _,by have:=h.pos;unfold at_;rw[zm];omega,O⟩;rw[Vu (Dp h a e) a,d,←g];rfl
theorem Vs (h:dF c ss){x:Int}:Tk c ss x↔∃(k:Nat) (s:cG) (i:Nat),ss[k]?=some s/\i<c.n/\x=((at_ c s i:Nat):Int)/\s.is i=true:=E5 h
theorem CN (h:dF c ss){x:Int}{a:Nat}:pY c ss x=some a↔∃(k:Nat) (s:cG) (i:Nat),ss[k]?=some s/\i<c.n/\a=at_ c s i/\((at_ c s i:Nat):Int)<=x/\x<((at_ c s i+c.size:Nat):Int):=by
 constructor
 ·intro hf;cases ho:kE c ss x with
  | none=>rw[C4 ho]at hf;cases hf
  | some k=>
   have j:=(nk.1 ho).1;have b:ss[k]?=some ss[k]:=cV j;rw[Hq ho b]at hf;obtain⟨i,g,rfl⟩:=nV.1 hf;have:=Ah h (zG b) g;exact⟨k,_,i,b,this.1,rfl,this.2.2.2.1,this.2.2.2.2⟩
 ·rintro⟨k,s,i,b,g,rfl,h1,h2⟩;have m:=h.tk s (zG b);have e:at_ c s (i+1)=at_ c s i+c.size:=by unfold at_;rw[zm];omega
  have d:idx c s x=some i:=(VM h.pos).2 ⟨h1,by rw[e];exact h2,O⟩;rw[Hq (Dp h b d) b,d];rfl
theorem dF.put (h:dF c ss){k i:Nat}{s:cG}(hs:ss[k]?=some s)(v:Bool):dF c (ss.set k (s.put i v)):=by
 have r:=(cW.1 hs).1;refine⟨h.ok,λt p=>?_,?_⟩
 ·rcases yu p with p|rfl
  ·exact h.tk t p
  ·rw[show(s.put i v).tk.length=s.tk.length by simp[cG.put]];exact h.tk s (zG hs)
 ·rw[mg];intro a b ha hb hab;have g:a<ss.length:=by simpa using ha
  have d:b<ss.length:=by simpa using hb
  have m:∀j (hj:j<(ss.set k (s.put i v)).length) (hj':j<ss.length),(ss.set k (s.put i v))[j].st=ss[j].st:=by
   intro j hj hj';rw[List.getElem_set];split
   ·rename_i e;subst e;have:ss[k]=s:=(cW.1 hs).2;rw[this];rfl
   ·rfl
  rw[m a ha g,m b hb d];exact mg.1 h.rY a b g d hab
theorem Et {k i:Nat}{s:cG}(hs:ss[k]?=some s)(v:Bool):(ss.set k (s.put i v)).map (·.st)=ss.map (·.st):=by
 apply zo;intro j;simp only[zd];by_cases hjk:j=k
 ·subst hjk;rw[zL (cW.1 hs).1,hs];rfl
 ·rw[zk (Ne.symm hjk)]
theorem Bq {s:cG}{i j:Nat}{v:Bool}(hi:i<s.tk.length):(s.put i v).is j=if j=i then v else s.is j:=by
 unfold cG.is cG.put;simp only[zP];by_cases hj:j=i
 ·subst hj;rw[zL hi,zC rfl];rfl
 ·rw[zk (Ne.symm hj),zB hj]
theorem D6 (h:dF c ss){k i:Nat}{s:cG}(hs:ss[k]?=some s)(hi:i<c.n)(v:Bool){y:Int}:Tk c (ss.set k (s.put i v)) y↔(y=((at_ c s i:Nat):Int)/\v=true)\/(y≠((at_ c s i:Nat):Int)/\Tk c ss y):=by
 have b:=(cW.1 hs).1;have m:=h.tk s (zG hs);have g:=h.pos;rw[Vs (h.put hs v),Vs h];constructor
 ·rintro⟨l,t,j,ht,hj,rfl,hb⟩;by_cases hlk:l=k
  ·subst hlk;rw[zL b]at ht;cases ht;rw[Bq O]at hb;by_cases a:j=i
   ·subst a;rw[zC rfl]at hb;exact .inl ⟨rfl,hb⟩
   ·rw[zB a]at hb;refine .inr ⟨λe=>a ?_,l,s,j,hs,hj,rfl,hb⟩;have d:at_ c s j=at_ c s i:=by have:=Int.ofNat.inj e;exact this
    exact(V8 h hs hs hj hi (zD _) O O O).2.2
  ·rw[zk (Ne.symm hlk)]at ht;refine .inr ⟨λe=>hlk ?_,l,t,j,ht,hj,rfl,hb⟩;have d:at_ c t j=at_ c s i:=Int.ofNat.inj e;exact(V8 h ht hs hj hi (zD _) O O O).1
 ·rintro(⟨rfl,rfl⟩|⟨hne,l,t,j,ht,hj,rfl,hb⟩)
  ·exact⟨k,s.put i true,i,zL b,hi,rfl,by rw[Bq O,zC rfl]⟩
  ·by_cases hlk:l=k
   ·subst hlk;rw[hs]at ht;cases ht;have a:j≠i:=λe=>hne (by rw[e]);exact⟨l,s.put i v,j,zL b,hj,rfl,by rw[Bq O,zB a];exact hb⟩
   ·exact⟨l,t,j,(zk (Ne.symm hlk)).trans ht,hj,rfl,hb⟩
theorem Cn {p:Nat}:uw c ss p↔∃x∈ss.map (·.st),x<=p/\p<x+c.aF:=by
 constructor
 ·rintro⟨s,a,h⟩;exact⟨_,zE.2 ⟨s,a,rfl⟩,h⟩
 ·rintro⟨x,hx,h⟩;obtain⟨s,a,rfl⟩:=zE.1 hx;exact⟨s,a,h⟩
theorem I8 {ss':List cG}(e:ss'.map (·.st)=ss.map (·.st)){p:Nat}:uw c ss' p↔uw c ss p:=by rw[Cn,Cn,e]
theorem Mq (h:dF c ss){x:Nat}{ss':List cG}(ho:iU c ss=some (x,ss')):dF c ss'/\ss'.map (·.st)=ss.map (·.st)/\¬Tk c ss (x:Int)/\∀y,Tk c ss' y↔y=(x:Int)\/Tk c ss y:=by
 unfold iU at ho;split at ho
 ·rename_i k hk;obtain⟨_,s,g,m⟩:=QC hk;rw[g]at ho;simp only at ho;split at ho
  ·rename_i i hi;cases ho;obtain⟨r,w,p,u⟩:=Gs m;rw[hi]at w;cases w;have j:i<c.n:=by rw[←h.tk s (zG g)];exact p
   have a:¬Tk c ss ((at_ c s i:Nat):Int):=λd=>by
    have z:=(E5 h (x:=((at_ c s i:Nat):Int)) (b:=false)).2 ⟨k,s,i,g,j,rfl,u⟩;unfold Tk at d;rw[z]at d;cases d
   refine⟨h.put g true,Et g true,a,λy=>?_⟩;rw[D6 h g j];constructor
   ·rintro(⟨e,_⟩|⟨_,d⟩)
    ·exact .inl e
    ·exact .inr d
   ·rintro(e|d)
    ·exact .inl ⟨e,rfl⟩
    ·exact .inr ⟨λe=>a (e▸d),d⟩
  ·cases ho
 ·cases ho
theorem Hz:∀(m:Nat) {ss:List cG},dF c ss->dF c (QS c m ss).2/\(QS c m ss).2.map (·.st)=ss.map (·.st)/\(QS c m ss).1.length<=m/\(QS c m ss).1.Nodup/\(∀x∈(QS c m ss).1,¬Tk c ss (x:Int))/\∀y,Tk c (QS c m ss).2 y↔(∃x∈(QS c m ss).1,y=((x:Nat):Int))\/Tk c ss y
 | 0,ss,h=>⟨h,rfl,zD _,sF,by simp[QS],by simp[QS]⟩
 | m+1,ss,h=>by
  cases ho:iU c ss with
  | none=>
   have e:QS c (m+1) ss=([],ss):=by simp[QS,ho]
   rw[e];exact⟨h,rfl,by simp,sF,by simp,by simp⟩
  | some r=>
   obtain⟨x,w⟩:=r;rw[Ho ho];obtain⟨p,A,u,a⟩:=Mq h ho;obtain⟨i,d,B,z,b,s⟩:=Hz m p;refine⟨i,d.trans A,by simp;omega,zr.2 ⟨λg=>b x g ((a _).2 (.inl rfl)),z⟩,?_,λy=>?_⟩
   ·intro y hy;rcases zW.1 hy with rfl|hy
    ·exact u
    ·exact λj=>b y hy ((a _).2 (.inr j))
   ·rw[s,a];simp only[zW,exists_eq_or_imp];constructor
    ·rintro(h|h|h)
     ·exact .inl (.inr h)
     ·exact .inl (.inl h)
     ·exact .inr h
    ·rintro((h|h)|h)
     ·exact .inr (.inl h)
     ·exact .inl h
     ·exact .inr (.inr h)
theorem EV:∀(xs:List Int) {ss:List cG},dF c ss->kq c ss xs->dF c (xs.foldl (fD c) ss)/\(xs.foldl (fD c) ss).map (·.st)=ss.map (·.st)/\∀y,Tk c (xs.foldl (fD c) ss) y↔Tk c ss y/\y∉xs
 | [],ss,h,_=>⟨h,rfl,by simp⟩
 | x::xs,ss,h,hA=>by
  have hx:=hA.1 x aA;obtain⟨k,s,i,p,d,j,_⟩:=Gk hx;obtain⟨b,a⟩:=(Up h.pos).1 j;rw[h.tk s (zG d)]at a;have e:=xB p d j;have u:=h.put d false (i:=i);have g:=hA.next h.pos;obtain⟨r,m,w⟩:=EV xs (ss:=fD c ss x) (by rw[e];exact u) g;rw[pS];refine⟨r,m.trans (by rw[e];exact Et d false),λy=>?_⟩;rw[w,e,D6 h d a,←b];simp only[zc,and_false,false_or,zW,not_or];constructor
  ·rintro⟨⟨b,a⟩,h3⟩;exact⟨a,b,h3⟩
  ·rintro⟨a,b,h3⟩;exact⟨⟨b,a⟩,h3⟩
theorem DF {s:cG}(h0:s.many=0)(i:Nat):s.is i=false:=by
 unfold cG.many at h0;rw[xw]at h0;unfold cG.is;rw[zP];cases hi:s.tk[i]? with
 | none=>rfl
 | some b=>
  cases b
  ·rfl
  ·exact absurd (zG hi) h0
theorem dF.cF (h:dF c ss):dF c (Go.Ar.cF ss):=⟨h.ok,λs a=>h.tk s (zI.1 a).1,h.rY.filter _⟩
theorem CU (h:dF c ss){y:Int}:Tk c (cF ss) y↔Tk c ss y:=by
 rw[Vs h.cF,Vs h];constructor
 ·rintro⟨k,s,i,hs,hi,rfl,hb⟩;obtain⟨l,a⟩:=zQ (zI.1 (zG hs)).1;exact⟨l,s,i,a,hi,rfl,hb⟩
 ·rintro⟨k,s,i,hs,hi,rfl,hb⟩;have:s∈cF ss:=zI.2 ⟨zG hs,by
   have:s.many≠0:=λb=>by rw[DF b i]at hb;cases hb
   simpa using this⟩
  obtain⟨l,a⟩:=zQ this;exact⟨l,s,i,a,hi,rfl,hb⟩
theorem GW {x:Nat}:x∈Qb ss↔∃s∈ss,s.many=0/\s.st=x:=by
 unfold Qb;simp only[zE,zI,zT,and_assoc]
theorem Ch (h:dF c ss){p:Nat}:uw c (cF ss) p↔uw c ss p/\¬∃x∈Qb ss,x<=p/\p<x+c.aF:=by
 constructor
 ·rintro⟨s,hs,h1,h2⟩;have d:=zI.1 hs;refine⟨⟨s,d.1,h1,h2⟩,?_⟩;rintro⟨x,hx,h3,h4⟩;obtain⟨t,m,b,rfl⟩:=GW.1 hx;obtain⟨i,g⟩:=zQ d.1;obtain⟨j,a⟩:=zQ m;have e:=h.vv g a h1 h2 h3 h4;subst e;rw[g]at a;cases a;simp[b]at d
 ·rintro⟨⟨s,hs,h1,h2⟩,hn⟩;refine⟨s,zI.2 ⟨hs,?_⟩,h1,h2⟩;have:s.many≠0:=λb=>hn ⟨s.st,GW.2 ⟨s,hs,b,rfl⟩,h1,h2⟩;simpa using this
theorem Rj (h:dF c ss):(Qb ss).Pairwise λa b=>a+c.aF<=b:=by
 unfold Qb;rw[sR];exact h.rY.filter _
theorem Vf {st:Nat}{t:cG}:t∈ig c ss st↔t=⟨st,List.replicate c.n false⟩\/t∈ss:=by
 unfold ig;rw[zK,zW];have:t∈ss↔t∈ss.takeWhile (λs=>decide (s.st<st))\/t∈ss.dropWhile (λs=>decide (s.st<st)):=by
  rw[←zK,List.takeWhile_append_dropWhile]
 rw[this];constructor
 ·rintro(h|h|h)
  ·exact .inr (.inl h)
  ·exact .inl h
  ·exact .inr (.inr h)
 ·rintro(h|h|h)
  ·exact .inr (.inl h)
  ·exact .inl h
  ·exact .inr (.inr h)
theorem Dr (h:dF c ss){st:Nat}(hd:∀s∈ss,s.st+c.aF<=st\/st+c.aF<=s.st):dF c (ig c ss st):=by
 refine⟨h.ok,λs m=>?_,?_⟩
 ·rcases Vf.1 m with rfl|m
  ·simp
  ·exact h.tk s m
 ·have g:=Hk h.pM st;have r:=h.pg;rw[GE];refine pA.2 ⟨h.rY.sublist (B2 _ _),qR.2 ⟨λb e=>?_,h.rY.sublist (List.drop_sublist _ _)⟩,λa u b e=>?_⟩
  ·obtain⟨i,d⟩:=zQ e;rw[kO]at d;have:=g.2 _ _ d;rcases hd b (sv e)with h1|h1
   ·omega
   ·exact h1
  ·obtain⟨i,d⟩:=zQ u;rw[zj]at d;split at d
   ·rename_i hlt;rcases zW.1 e with rfl|e
    ·have:=(g.2 _ _ d).2 hlt;rcases hd a (zG d)with h1|h1
     ·exact h1
     ·omega
    ·obtain⟨j,p⟩:=zQ e;rw[kO]at p;exact h.sd d p O
   ·cases d
theorem Fk (h:dF c ss){st:Nat}(hd:∀s∈ss,s.st+c.aF<=st\/st+c.aF<=s.st){y:Int}:Tk c (ig c ss st) y↔Tk c ss y:=by
 rw[Vs (Dr h hd),Vs h];constructor
 ·rintro⟨k,s,i,hs,hi,rfl,hb⟩;rcases Vf.1 (zG hs)with rfl|hm
  ·have:(⟨st,List.replicate c.n false⟩:cG).is i=false:=DF (by simp[cG.many,xf]) i;rw[this]at hb;cases hb
  ·obtain⟨l,a⟩:=zQ hm;exact⟨l,s,i,a,hi,rfl,hb⟩
 ·rintro⟨k,s,i,hs,hi,rfl,hb⟩;obtain⟨l,a⟩:=zQ (Vf.2 (.inr (zG hs)):s∈ig c ss st);exact⟨l,s,i,a,hi,rfl,hb⟩
theorem LW {st:Nat}(hd:∀s∈ss,s.st+c.aF<=st\/st+c.aF<=s.st):HY c ss st=0:=by
 unfold HY;rw[zB];simp only[kb,zU,not_exists,not_and];intro s hs hlt;rcases hd s hs with h|h<;>omega
end Go.Ar
namespace Go.Ar
open Go.Bu (Za Qy Y7 pG KP dC take QZ Kr Bounded)
def gf (st:List Nat)(p:Nat):Nat:=st.getD p 0
def AR.f (A:AR)(p:Nat):Nat:=gf A.st p
def ma (rs:List (Nat×Nat))(p:Nat):Prop:=∃r∈rs,r.1<=p/\p<r.1+r.2
theorem MH {st:List Nat}{p:Nat}(h:gf st p≠0):p<st.length:=by
 apply Classical.byContradiction;intro hn;exact h (by unfold gf;rw[zP,zV O];rfl)
theorem uc {st:List Nat}{a b v p:Nat}(hb:b<=st.length):gf (gg st a b v) p=if a<=p/\p<b then v else gf st p:=by
 unfold gf;rw[zP,zP,UL];by_cases hp:p<st.length
 ·rw[cV hp];simp only[zX,py]
 ·rw[zV O,zB O];rfl
theorem VV {n a m:Nat}:Za n (a:Int) (m:Int)=true↔1<=m/\a+m<=n:=by
 simp only[Za,zF,zU];omega
theorem Jz {st:List Nat}{a m:Nat}{fr:List Nat}(hl:a+m<=st.length):uz st a m fr=true↔∀p,a<=p->p<a+m->gf st p∈fr:=by
 unfold uz;rw[j8];constructor
 ·intro h p h1 h2;have d:p<st.length:=by omega
  have:st[p]∈(st.drop a).take m:=by
   refine zG (i:=p-a) ?_;rw[zj,zC O,kO,show a+(p-a)=p by omega,cV d]
  have:=h _ this;unfold gf;rw[zP,cV d];simpa using this
 ·intro h x hx;obtain⟨i,b⟩:=zQ hx;rw[zj]at b;split at b
  ·rename_i hlt;rw[kO]at b;have:=h (a+i) O O;unfold gf at this;rw[zP,b]at this;simpa using this
  ·cases b
theorem D3 {st:List Nat}{a m v:Nat}{fr:List Nat}(h1:1<=m)(hl:a+m<=st.length)(h:∀p,a<=p->p<a+m->gf st p∈fr):VX st (a:Int) (m:Int) v fr=gg st a (a+m) v:=by
 unfold VX GL;rw[zC (VV.2 ⟨h1,hl⟩),dE,dE,(Jz hl).2 h];rfl
structure PG (A:AR):Prop where
 len:A.st.length=A.n
 n1:32<=A.n
 n2:A.n<=1024
 n16:A.n%16=0
 le:∀p,A.f p<=3
 us:∀p,A.f p=1↔A.ow p≠0
 fr:∀p,A.S p=true↔2<=A.f p
 hp:∀p,A.f p=0↔A.f (p/16*16)=0
theorem PG.lt {A:AR}(h:PG A){p:Nat}(hp:A.f p≠0):p<A.n:=h.len▸MH hp
theorem PG.jq {A:AR}(h:PG A):Bounded A.S A.n:=λp a=>h.lt (by have:=(h.fr p).1 a;omega)
theorem PG.kD {A:AR}(h:PG A){p q:Nat}(e:p/16=q/16):A.f p=0↔A.f q=0:=by rw[h.hp p,h.hp q,e]
theorem PG.same {A B:AR}(h:PG A)(e1:B.n=A.n)(e2:B.st=A.st)(e3:B.S=A.S)(e4:B.ow=A.ow):PG B:=by
 have a:∀p,B.f p=A.f p:=λp=>by unfold AR.f;rw[e2]
 exact⟨by rw[e2,e1];exact h.len,by rw[e1];exact h.n1,by rw[e1];exact h.n2,by rw[e1];exact h.n16,λp=>by rw[a];exact h.le p,λp=>by rw[a,e4];exact h.us p,λp=>by rw[a,e3];exact h.fr p,λp=>by rw[a,a];exact h.hp p⟩
theorem FO {ow:Nat->Nat}{a m no:Nat}(h1:1<=m)(h2:a+m<=1024)(p:Nat):jB ow a m no p=if a<=p/\p<a+m then no else ow p:=by
 unfold jB;rw[zC (VV.2 ⟨h1,h2⟩)]
theorem EO {n:Nat}{S:Nat->Bool}{a m:Nat}(h1:1<=m)(h2:a+m<=n)(h:∀p,a<=p->p<a+m->S p=false):Qy n S (a:Int) (m:Int)=dC S a (a+m):=by
 unfold Qy;rw[VV.2 ⟨h1,h2⟩,dE,dE,KP.2 h];rfl
structure Out (A B:AR) (a b:Nat):Prop where
 n:B.n=A.n
 len:B.st.length=A.st.length
 f:∀p,¬(a<=p/\p<b)->B.f p=A.f p
 ow:∀p,¬(a<=p/\p<b)->B.ow p=A.ow p
 S:∀p,¬(a<=p/\p<b)->B.S p=A.S p
theorem Out.pg {A B:AR}{a b v:Nat}(o:Out A B a b)(h:PG A)(hv:v<=3)(hf:∀p,a<=p->p<b->B.f p=v)(hw:∀p,a<=p->p<b->(v=1↔B.ow p≠0))(hS:∀p,a<=p->p<b->(B.S p=true↔2<=v))
 (hz:∀p,B.f p=0↔B.f (p/16*16)=0):PG B:=by
 refine⟨by rw[o.len,o.n];exact h.len,by rw[o.n];exact h.n1,by rw[o.n];exact h.n2,by rw[o.n];exact h.n16,λp=>?_,λp=>?_,λp=>?_,hz⟩
 ·by_cases hp:a<=p/\p<b
  ·rw[hf p hp.1 hp.2];exact hv
  ·rw[o.f p hp];exact h.le p
 ·by_cases hp:a<=p/\p<b
  ·rw[hf p hp.1 hp.2];exact hw p hp.1 hp.2
  ·rw[o.f p hp,o.ow p hp];exact h.us p
 ·by_cases hp:a<=p/\p<b
  ·rw[hf p hp.1 hp.2];exact hS p hp.1 hp.2
  ·rw[o.f p hp,o.S p hp];exact h.fr p
theorem Out.zero {A B:AR}{a b v:Nat}(o:Out A B a b)(h:PG A)(hf:∀p,a<=p->p<b->B.f p=v)(hv:v≠0)(hA:∀p,a<=p->p<b->A.f p≠0):∀p,B.f p=0↔A.f p=0:=by
 intro p;by_cases hp:a<=p/\p<b
 ·rw[hf p hp.1 hp.2];exact⟨λe=>(hv e).elim,λe=>(hA p hp.1 hp.2 e).elim⟩
 ·rw[o.f p hp]
theorem Cz {A B:AR}(h:PG A)(e:∀p,B.f p=0↔A.f p=0):∀p,B.f p=0↔B.f (p/16*16)=0:=λp=>by rw[e,e];exact h.hp p
theorem Em {A:AR}(h:PG A){a m:Nat}(h1:1<=m)(hu:∀p,a<=p->p<a+m->A.f p=1):Out A (VG A (a,m)) a (a+m)/\(∀p,a<=p->p<a+m->(VG A (a,m)).f p=2/\(VG A (a,m)).ow p=0)/\PG (VG A (a,m))/\∀p,(VG A (a,m)).f p=0↔A.f p=0:=by
 have g:a+m<=A.n:=by have:=h.lt (p:=a+m-1) (by rw[hu _ O O];omega);omega
 have w:=h.n2;have e1:(VG A (a,m)).st=gg A.st a (a+m) 2:=D3 h1 (by rw[h.len];exact g) λp b d=>by
  have:=hu p b d;unfold AR.f at this;rw[this];simp
 have e2:(VG A (a,m)).S=dC A.S a (a+m):=EO h1 g λp b d=>by
  apply nh.2;intro hS;have:=(h.fr p).1 hS;have:=hu p b d;omega
 have u:∀p,(VG A (a,m)).ow p=if a<=p/\p<a+m then 0 else A.ow p:=λp=>FO h1 O p
 have s:∀p,(VG A (a,m)).f p=if a<=p/\p<a+m then 2 else A.f p:=λp=>by unfold AR.f;rw[e1,uc (by rw[h.len];exact g)]
 have o:Out A (VG A (a,m)) a (a+m):=⟨rfl,by rw[e1,Ku],λp e=>by rw[s,zB e],λp e=>by rw[u,zB e],λp e=>by
  rw[e2];unfold dC;have:(decide (a<=p)&&decide (p<a+m))=false:=by simp;omega
  rw[this,Bool.or_false]⟩
 have i:∀p,a<=p->p<a+m->(VG A (a,m)).f p=2:=λp b d=>by rw[s,zC ⟨b,d⟩]
 have r:∀p,a<=p->p<a+m->(VG A (a,m)).ow p=0:=λp b d=>by rw[u,zC ⟨b,d⟩]
 have j:=o.zero h i O λp b d=>by rw[hu p b d];omega
 refine⟨o,λp b d=>⟨i p b d,r p b d⟩,o.pg h O i (λp b d=>by rw[r p b d];simp) (λp b d=>?_) (Cz h j),j⟩;rw[e2,QZ];exact⟨λ_=>zD _,λ_=>.inr ⟨b,d⟩⟩
structure rD (A B:AR) (rs:List (Nat×Nat)):Prop where
 pg:PG B
 n:B.n=A.n
 tb:B.tb=A.tb
 room:B.room=A.room
 cM:B.cM=A.cM
 cD:B.cD=A.cD
 runs:B.runs=A.runs
 i:∀p,ma rs p->B.f p=2/\B.ow p=0
 o:∀p,¬ma rs p->B.f p=A.f p/\B.ow p=A.ow p
 z:∀p,B.f p=0↔A.f p=0
theorem FH:∀(rs:List (Nat×Nat)) {A:AR},PG A->(∀r∈rs,1<=r.2)->(∀r∈rs,∀p,r.1<=p->p<r.1+r.2->A.f p=1)->rs.Pairwise (λa b=>a.1+a.2<=b.1\/b.1+b.2<=a.1)->rD A (VU A rs) rs
 | [],A,h,_,_,_=>⟨h,rfl,rfl,rfl,rfl,rfl,rfl,λp ⟨r,hr,_⟩=>by simp at hr,λp _=>⟨rfl,rfl⟩,λp=>Iff.rfl⟩
 | (a,m)::rs,A,h,hp,hu,hd=>by
  have hd':=qR.1 hd;obtain⟨o,C,x,B⟩:=Em h (hp _ (pd ..)) (hu _ (pd ..));have d:=FH rs x (λr hr=>hp r (nu _ hr)) (λr hr p s u=>by
   have:=hd'.1 r hr;simp only at this;rw[o.f p O];exact hu r (nu _ hr) p s u) hd'.2
  have e:VU A ((a,m)::rs)=VU (VG A (a,m)) rs:=rfl;rw[e];refine⟨d.pg,d.n,d.tb,d.room,d.cM,d.cD,d.runs,λp g=>?_,λp g=>?_,λp=>(d.z p).trans (B p)⟩
  ·by_cases j:ma rs p
   ·exact d.i p j
   ·have:=d.o p j;obtain⟨r,hr,s,u⟩:=g;rcases zW.1 hr with rfl|hr
    ·rw[this.1,this.2];exact C p s u
    ·exact(j ⟨r,hr,s,u⟩).elim
  ·have j:¬ma rs p:=λ⟨r,hr,w⟩=>g ⟨r,nu _ hr,w⟩;have y:¬(a<=p/\p<a+m):=λw=>g ⟨(a,m),pd ..,w⟩;have:=d.o p j;exact⟨this.1.trans (o.f p y),this.2.trans (o.ow p y)⟩
theorem Bx {A:AR}(h:PG A){a m no:Nat}(h1:1<=m)(hn:no≠0)(hS:∀p,a<=p->p<a+m->A.S p=true):Out A (dN A a m no) a (a+m)/\(∀p,a<=p->p<a+m->(dN A a m no).f p=1/\(dN A a m no).ow p=no)/\PG (dN A a m no)/\∀p,(dN A a m no).f p=0↔A.f p=0:=by
 have g:∀p,a<=p->p<a+m->2<=A.f p:=λp b d=>(h.fr p).1 (hS p b d);have s:a+m<=A.n:=by have:=h.lt (p:=a+m-1) (by have:=g (a+m-1) O O;omega);omega
 have y:=h.n2;have e1:(dN A a m no).st=gg A.st a (a+m) 1:=D3 h1 (by rw[h.len];exact s) λp b d=>by
  have x:=g p b d;have z:=h.le p;unfold AR.f at x z;have:gf A.st p=2\/gf A.st p=3:=by omega
  simpa using this
 have w:∀p,(dN A a m no).ow p=if a<=p/\p<a+m then no else A.ow p:=λp=>FO h1 O p
 have u:∀p,(dN A a m no).f p=if a<=p/\p<a+m then 1 else A.f p:=λp=>by unfold AR.f;rw[e1,uc (by rw[h.len];exact s)]
 have o:Out A (dN A a m no) a (a+m):=⟨rfl,by rw[e1,Ku],λp e=>by rw[u,zB e],λp e=>by rw[w,zB e],λp e=>by
  show take A.S a (a+m) p=A.S p;unfold take;have:(decide (a<=p)&&decide (p<a+m))=false:=by simp;omega
  rw[this];simp⟩
 have i:∀p,a<=p->p<a+m->(dN A a m no).f p=1:=λp b d=>by rw[u,zC ⟨b,d⟩]
 have r:∀p,a<=p->p<a+m->(dN A a m no).ow p=no:=λp b d=>by rw[w,zC ⟨b,d⟩]
 have j:=o.zero h i O λp b d=>by have:=g p b d;omega
 refine⟨o,λp b d=>⟨i p b d,r p b d⟩,o.pg h O i (λp b d=>by rw[r p b d];simp[hn]) (λp b d=>?_) (Cz h j),j⟩;show take A.S a (a+m) p=true↔_;rw[Kr];constructor
 ·rintro⟨_,hx⟩;exact(hx ⟨b,d⟩).elim
 ·intro hx;omega
theorem EA:∀(m:Nat) {st:List Nat} {a:Nat},(a+m)*16<=st.length->(∀p,a*16<=p->p<(a+m)*16->gf st p=0)->(Uv st a m).length=st.length/\∀p,gf (Uv st a m) p=if a*16<=p/\p<(a+m)*16 then 3 else gf st p
 | 0,st,a,hl,hz=>⟨rfl,λp=>by rw[zB O];rfl⟩
 | m+1,st,a,hl,hz=>by
  obtain⟨i1,i2⟩:=EA m (st:=st) (a:=a) O λp d g=>hz p d O;rw[FU];have b:gf (Uv st a m) (16*(a+m))=0:=by rw[i2,zB O];exact hz _ O O
  have ok:kx (Uv st a m) ((a+m:Nat):Int)=0:=by
   unfold kx;rw[FB (by rw[i1];omega),zC rfl,dE];unfold gf at b;rw[zC b]
  have e:iT (Uv st a m) ((a+m:Nat):Int)=gg (Uv st a m) (16*(a+m)) (16*(a+m)+16) 3:=by
   unfold iT;rw[zC ok,dE]
  rw[e];refine⟨by rw[Ku,i1],λp=>?_⟩;rw[uc (by rw[i1];omega),i2];by_cases h1:16*(a+m)<=p/\p<16*(a+m)+16
  ·rw[zC h1,zC O]
  ·rw[zB h1];by_cases h2:a*16<=p/\p<(a+m)*16
   ·rw[zC h2,zC O]
   ·rw[zB h2,zB O]
theorem B1 {sp:Sp}{s m:Nat}(h:eZ sp (s:Int) (m:Int)=0):1<=m/\s+m<=sp.st.length/\∀p,s<=p->p<s+m->gf sp.st p=0:=by
 unfold eZ at h;split at h
 ·rename_i hr;obtain⟨b,d⟩:=VV.1 hr;rw[dE,dE]at h;split at h
  ·cases h
  ·rename_i hn;refine⟨b,d,λp j g=>?_⟩;have a:p<sp.st.length:=by omega
   have e:sp.st[p]∈(sp.st.drop s).take m:=by
    refine zG (i:=p-s) ?_;rw[zj,zC O,kO,show s+(p-s)=p by omega,cV a]
   simp only[kb,not_exists,not_and]at hn;have:=hn _ e;unfold gf;rw[zP,cV a];simpa using this
 ·cases h
structure Grown (A B:AR) (sp sp':Sp) (s size:Nat):Prop where
 pg:PG B
 n:B.n=A.n
 tb:B.tb=A.tb
 room:B.room=A.room
 cM:B.cM=A.cM
 cD:B.cD=A.cD
 runs:B.runs=A.runs
 ow:B.ow=A.ow
 SB:s%16=0
 s1:16<=s
 sl:s+size<=A.n
 un:∀p,s<=p->p<s+size->gf sp.st p=0
 i:∀p,s<=p->p<s+size->B.f p=3/\gf sp'.st p=1
 o:∀p,¬(s<=p/\p<s+size)->B.f p=A.f p/\gf sp'.st p=gf sp.st p
 w:∀x,¬(s*32<=x/\x<(s+size)*32)->sp'.wd x=sp.wd x
 l:sp'.st.length=sp.st.length
 pk:sp'.pk=sp.pk
theorem Uy {sp:Sp}{size s:Nat}(h1:1<=size)(h:cY sp size=some s):eZ sp (s:Int) (size:Int)=0/\s≠0/\(∃j,s=j*size)/\∀j,j*size<s->1<=j->eZ sp ((j*size:Nat):Int) (size:Int)≠0:=by
 unfold cY at h;obtain⟨r,us,vs,u,y⟩:=List.find?_eq_some_iff_append.1 h;simp only[zF,bne_iff_ne,ne_eq,zT]at r;have g:s∈(List.range (sp.st.length/size)).map (· * size):=by rw[u];simp
 obtain⟨j,x,rfl⟩:=zE.1 g;rw[zg]at x;refine⟨r.2,r.1,⟨j,rfl⟩,λi w z=>?_⟩;have A:i<j:=Nat.lt_of_mul_lt_mul_right w;have:i*size∈us:=by
  have e:i*size∈(List.range (sp.st.length/size)).map (· * size):=zE.2 ⟨i,zg.2 O,rfl⟩;have d:((List.range (sp.st.length/size)).map (· * size)).Pairwise (· < ·):=by
   rw[sR];exact List.pairwise_lt_range.imp λ{a b} p=>Nat.mul_lt_mul_of_pos_right p O
  rw[u]at e d;rcases zK.1 e with h|h
  ·exact h
  ·rcases zW.1 h with h|h
   ·have:=vT O h;omega
   ·have:=(qR.1 (pA.1 d).2.1).1 _ h;omega
 have:=y _ this;have m:i*size≠0:=by
  have:=Nat.mul_pos (show 0<i by omega) (show 0<size by omega);omega
 simpa[m]using this
theorem Ee {sp:Sp}{s m:Nat}(h:eZ sp (s:Int) (m:Int)=0):(fS sp (s:Int) (m:Int)).st.length=sp.st.length/\(∀p,gf (fS sp (s:Int) (m:Int)).st p=if s<=p/\p<s+m then 1 else gf sp.st p)/\(∀x,¬(s*32<=x/\x<(s+m)*32)->(fS sp (s:Int) (m:Int)).wd x=sp.wd x)/\(fS sp (s:Int) (m:Int)).pk=sp.pk:=by
 obtain⟨d,b,_⟩:=B1 h;unfold fS;rw[zC h,dE,dE];refine⟨by simp[Sp.set,Ku],λp=>uc b,λx a=>?_,rfl⟩;show(if s*32<=x/\x<(s+m)*32 then 0 else sp.wd x)=_
 rw[zB a]
theorem OL {A:AR}{sp:Sp}(h:PG A)(hl:sp.st.length=A.n)(hz:∀p,gf sp.st p=0->A.f p=0){size:Nat}(hs:size=16\/size=32\/size=64){B:AR}{sp':Sp}(hg:Uu A sp size=some (B,sp')) :
 ∃s,cY sp size=some s/\Grown A B sp sp' s size:=by
 unfold Uu at hg;split at hg
 ·cases hg
 ·rename_i s hgs;cases hg;obtain⟨C,H,⟨j,J⟩,_⟩:=Uy O hgs;obtain⟨E,y,x⟩:=B1 C;have r:s%16=0:=by rcases hs with rfl|rfl|rfl<;>omega
  have z:size%16=0:=by rcases hs with rfl|rfl|rfl<;>omega
  have e1:s/16*16=s:=by omega
  have e2:(s/16+size/16)*16=s+size:=by omega
  have e:∀p,s<=p->p<s+size->A.f p=0:=λp b d=>hz p (x p b d);obtain⟨F,i⟩:=EA (size/16) (st:=A.st) (a:=s/16) (by rw[e2,h.len,←hl];exact y) (by rw[e1,e2];exact e);rw[e1,e2]at i;obtain⟨D,u,G,b4⟩:=Ee C;have g:s+size<=A.n:=by rw[←hl];exact y
  have w:Qy A.n A.S (s:Int) (size:Int)=dC A.S s (s+size):=EO E g λp b d=>by
   apply nh.2;intro hS;have:=(h.fr p).1 hS;have:=e p b d;omega
  refine⟨s,hgs,⟨?_,rfl,rfl,rfl,rfl,rfl,rfl,rfl,r,O,g,x,λp b d=>⟨?_,?_⟩,λp hp=>⟨?_,?_⟩,G,D,b4⟩⟩
  ·have o:Out A {A with st:=Uv A.st (s/16) (size/16),S:=Qy A.n A.S (s:Int) (size:Int)} s (s+size):=⟨rfl,F,λp hp=>by show gf _ p=_;rw[i,zB hp];rfl,λp hp=>rfl,λp hp=>by
    show Qy A.n A.S (s:Int) (size:Int) p=A.S p;rw[w];unfold dC;have:(decide (s<=p)&&decide (p<s+size))=false:=by simp;omega
    rw[this,Bool.or_false]⟩
   have m:∀p,s<=p->p<s+size->AR.f {A with st:=Uv A.st (s/16) (size/16),S:=Qy A.n A.S (s:Int) (size:Int)} p=3:=λp b d=>by show gf _ p=3;rw[i,zC ⟨b,d⟩]
   refine o.pg h (zD _) m (λp b d=>?_) (λp b d=>?_) λp=>?_
   ·have H:=e p b d;have:=h.us p;constructor
    ·intro hx;omega
    ·intro hx;have:=this.2 hx;omega
   ·show Qy A.n A.S (s:Int) (size:Int) p=true↔_;rw[w,QZ];exact⟨λ_=>O,λ_=>.inr ⟨b,d⟩⟩
   ·by_cases hp:s<=p/\p<s+size
    ·rw[m p hp.1 hp.2,m (p/16*16) O O]
    ·rw[o.f p hp,o.f (p/16*16) O];exact h.hp p
  ·show gf (Uv A.st (s/16) (size/16)) p=3;rw[i,zC ⟨b,d⟩]
  ·rw[u,zC ⟨b,d⟩]
  ·show gf (Uv A.st (s/16) (size/16)) p=A.f p;rw[i,zB hp];rfl
  ·rw[u,zB hp]
end Go.Ar
namespace Go.Ar
open Go.Bu (Za Qy Y7 pG KP dC take QZ Kr Bounded full can Yr Us Zt QA ZE Q9 QG Z0)
def Cl (A:AR)(k:Nat)(c:bZ)(ss:List cG):Prop:=A.tb[k]?=some c/\A.cD[k]?=some ss
def fM (A:AR)(k:Nat)(x:Int):Prop:=∃c ss,Cl A k c ss/\Tk c ss x
def gR (A:AR)(k:Nat)(x:Int):Prop:=∃t,A.cM[k]?=some t/\x∈t.bs.flatten
structure GA (A:AR):Prop where
 pg:PG A
 tb:A.tb.length<=40
 lc:A.cD.length=A.tb.length
 lt:A.cM.length=A.tb.length
 cD:∀k c ss,Cl A k c ss->dF c ss
 one:∀k c ss,Cl A k c ss->∀s∈ss,s.st/16=(s.st+c.aF-1)/16
 ow:∀k c ss,Cl A k c ss->∀p,A.ow p=k+1↔uw c ss p
 jP:∀p,A.ow p=41↔ma A.runs p
 qM:∀p,A.ow p=41\/A.ow p<=A.tb.length
 gG:∀r∈A.runs,1<=r.2
 kf:A.runs.Pairwise λa b=>a.1+a.2<=b.1\/b.1+b.2<=a.1
 pD:∀(k:Nat) (t:gD),A.cM[k]?=some t->t.bs.flatten.Nodup
 lR:∀(k:Nat) c ss (t:gD),Cl A k c ss->A.cM[k]?=some t->∀x∈t.bs.flatten,Tk c ss x
 oO:∀(k:Nat) (c:bZ) (t:gD),A.tb[k]?=some c->A.cM[k]?=some t->∀xs∈t.bs,xs.length=c.batch
structure Kp (A B:AR):Prop where
 n:B.n=A.n
 tb:B.tb=A.tb
 room:B.room=A.room
 z:∀p,B.f p=0↔A.f p=0
 t:∀p,B.f p=3->A.f p=3
theorem Kp.refl (A:AR):Kp A A:=⟨rfl,rfl,rfl,λ_=>Iff.rfl,λ_=>id⟩
theorem Kp.trans {A B C:AR}(h:Kp A B)(k:Kp B C):Kp A C:=⟨k.n.trans h.n,k.tb.trans h.tb,k.room.trans h.room,λp=>(k.z p).trans (h.z p),λp a=>h.t p (k.t p a)⟩
theorem Kp.aF {A B:AR}(e1:B.n=A.n)(e2:B.tb=A.tb)(e3:B.room=A.room)(e4:B.st=A.st):Kp A B:=⟨e1,e2,e3,λp=>by unfold AR.f;rw[e4],λp=>by unfold AR.f;rw[e4];exact id⟩
variable {A:AR}{k:Nat}{c:bZ}{ss:List cG}
theorem Cl.lt (h:Cl A k c ss):k<A.tb.length:=(cW.1 h.1).1
theorem Cl.eq {c':bZ}{ss':List cG}(h:Cl A k c ss)(h':Cl A k c' ss'):c=c'/\ss=ss':=⟨Option.some.inj (h.1.symm.trans h'.1),Option.some.inj (h.2.symm.trans h'.2)⟩
theorem GA.cl (h:GA A){k:Nat}(hk:k<A.tb.length):∃c ss t,Cl A k c ss/\A.cM[k]?=some t:=by
 have b:=h.lc;have a:=h.lt;exact⟨A.tb[k],A.cD[k],A.cM[k],⟨by simp,by simp⟩,by simp⟩
theorem GA.used (h:GA A)(hk:Cl A k c ss){s:cG}(hs:s∈ss){p:Nat}(h1:s.st<=p)(h2:p<s.st+c.aF):A.f p=1/\A.ow p=k+1:=by
 have:=(h.ow k c ss hk p).2 ⟨s,hs,h1,h2⟩;exact⟨(h.pg.us p).2 O,this⟩
theorem GA.ji (h:GA A){r:Nat×Nat}(hr:r∈A.runs){p:Nat}(h1:r.1<=p)(h2:p<r.1+r.2):A.f p=1/\A.ow p=41:=by
 have:=(h.jP p).2 ⟨r,hr,h1,h2⟩;exact⟨(h.pg.us p).2 O,this⟩
theorem GA.gJ (h:GA A){r s:Nat×Nat}(hr:r∈A.runs)(hs:s∈A.runs){x:Nat}(h1:r.1<=x)(h2:x<r.1+r.2)(h3:s.1<=x)(h4:x<s.1+s.2):r=s:=by
 obtain⟨i,e⟩:=zQ hr;obtain⟨j,d⟩:=zQ hs;obtain⟨a,rfl⟩:=cW.1 e;obtain⟨b,rfl⟩:=cW.1 d;rcases px i j with hl|hl|hl
 ·have:=mg.1 h.kf i j a b hl;omega
 ·subst hl;rfl
 ·have:=mg.1 h.kf j i b a hl;omega
theorem GA.fit (h:GA A){r:Nat×Nat}(hr:r∈A.runs):r.1+r.2<=A.n:=by
 have:=h.gG r hr;have:=h.pg.lt (p:=r.1+r.2-1) (by rw[(h.ji hr (p:=r.1+r.2-1) O O).1];omega);omega
theorem GA.nT (h:GA A):iI A:=by
 have w:=h.pg.n2;refine⟨λr b s j x d g m p=>h.gJ b j d g m p,λx i a=>?_,λx i u a=>?_,λr b=>?_⟩
 ·obtain⟨r,b,d,g⟩:=(h.jP x).1 a;unfold rz;rw[As];exact⟨r,b,by simp[d,g]⟩
 ·rcases h.qM x with e|e
  ·exact(a e).elim
  ·exact e
 ·have:=h.fit b;omega
theorem Ud (hk:Cl A k c ss){ss':List cG}{j:Nat}{d:bZ}{tt:List cG}(h:Cl {A with cD:=A.cD.set k ss'} j d tt):(j=k/\d=c/\tt=ss')\/(j≠k/\Cl A j d tt):=by
 obtain⟨b,a⟩:=h;by_cases hjk:j=k
 ·subst hjk;have e:=(cW.1 hk.2).1;simp only[zL e]at a;exact .inl ⟨rfl,Option.some.inj (b.symm.trans hk.1),(Option.some.inj a).symm⟩
 ·simp only[zk (Ne.symm hjk)]at a;exact .inr ⟨hjk,b,a⟩
theorem UH (hk:Cl A k c ss)(ss':List cG):Cl {A with cD:=A.cD.set k ss'} k c ss':=⟨hk.1,zL (cW.1 hk.2).1⟩
theorem P0 {ss':List cG}{j:Nat}{d:bZ}{tt:List cG}(hjk:j≠k)(h:Cl A j d tt):Cl {A with cD:=A.cD.set k ss'} j d tt:=⟨h.1,(zk (Ne.symm hjk)).trans h.2⟩
theorem GA.kK (h:GA A)(hk:Cl A k c ss){ss':List cG}(hC:dF c ss')(hst:ss'.map (·.st)=ss.map (·.st))(ht:∀t,A.cM[k]?=some t->∀x∈t.bs.flatten,Tk c ss' x):GA {A with cD:=A.cD.set k ss'}:=by
 refine⟨h.pg.same rfl rfl rfl rfl,h.tb,by simp[h.lc],h.lt,λj d b a=>?_,λj d b a s i=>?_,λj d b a p=>?_,h.jP,h.qM,h.gG,h.kf,h.pD,λj d b t a g=>?_,h.oO⟩
 ·rcases Ud hk a with⟨rfl,rfl,rfl⟩|⟨hne,a⟩
  ·exact hC
  ·exact h.cD j d b a
 ·rcases Ud hk a with⟨rfl,rfl,rfl⟩|⟨hne,a⟩
  ·have:s.st∈ss.map (·.st):=by rw[←hst];exact zE.2 ⟨s,i,rfl⟩
   obtain⟨t,ht,e⟩:=zE.1 this;rw[←e];exact h.one _ _ _ hk t ht
  ·exact h.one j d b a s i
 ·rcases Ud hk a with⟨rfl,rfl,rfl⟩|⟨hne,a⟩
  ·rw[I8 hst];exact h.ow _ _ _ hk p
  ·exact h.ow j d b a p
 ·rcases Ud hk a with⟨rfl,rfl,rfl⟩|⟨hne,a⟩
  ·exact ht t g
  ·exact h.lR j d b t a g
theorem xJ (hk:Cl A k c ss){ss':List cG}{j:Nat}{x:Int}:fM {A with cD:=A.cD.set k ss'} j x↔(j=k/\Tk c ss' x)\/(j≠k/\fM A j x):=by
 constructor
 ·rintro⟨d,tt,hj,hx⟩;rcases Ud hk hj with⟨rfl,rfl,rfl⟩|⟨hne,hj⟩
  ·exact .inl ⟨rfl,hx⟩
  ·exact .inr ⟨hne,d,tt,hj,hx⟩
 ·rintro(⟨rfl,hx⟩|⟨hne,d,tt,hj,hx⟩)
  ·exact⟨c,ss',UH hk ss',hx⟩
  ·exact⟨d,tt,P0 hne hj,hx⟩
theorem KV (hk:Cl A k c ss){x:Int}:fM A k x↔Tk c ss x:=by
 constructor
 ·rintro⟨d,tt,hj,hx⟩;obtain⟨rfl,rfl⟩:=hk.eq hj;exact hx
 ·intro hx;exact⟨c,ss,hk,hx⟩
def swp (A:AR)(k:Nat)(c:bZ)(ss:List cG):AR:=VU {A with cD:=A.cD.set k (cF ss)} ((Qb ss).map λs=>(s,c.aF))
theorem AV {p:Nat}:ma ((Qb ss).map λs=>(s,c.aF)) p↔∃x∈Qb ss,x<=p/\p<x+c.aF:=by
 unfold ma;simp only[zE];constructor
 ·rintro⟨_,⟨x,hx,rfl⟩,h⟩;exact⟨x,hx,h⟩
 ·rintro⟨x,hx,h⟩;exact⟨_,⟨x,hx,rfl⟩,h⟩
theorem GA.jS (h:GA A)(hk:Cl A k c ss){x:Nat}(hx:x∈Qb ss){p:Nat}(h1:x<=p)(h2:p<x+c.aF):A.f p=1/\A.ow p=k+1:=by
 obtain⟨s,a,_,rfl⟩:=GW.1 hx;exact h.used hk a h1 h2
theorem GA.qc (h:GA A)(hk:Cl A k c ss):rD {A with cD:=A.cD.set k (cF ss)} (swp A k c ss) ((Qb ss).map λs=>(s,c.aF)):=by
 have g:=h.cD k c ss hk;refine FH _ (h.pg.same rfl rfl rfl rfl) (λr e=>?_) (λr e p i m=>?_) ?_
 ·obtain⟨x,_,rfl⟩:=zE.1 e;exact g.pg
 ·obtain⟨x,j,rfl⟩:=zE.1 e;exact(h.jS hk j i m).1
 ·rw[sR];exact(Rj g).imp λ{a b} d=>.inl d
theorem GA.swp (h:GA A)(hk:Cl A k c ss):GA (Go.Ar.swp A k c ss):=by
 have b:=h.qc hk;have w:=h.cD k c ss hk;have D:=hk.lt;have C:=h.tb;have cl:∀{j d m},Cl (Go.Ar.swp A k c ss) j d m->(j=k/\d=c/\m=cF ss)\/(j≠k/\Cl A j d m):=λ{j d m} a=>Ud hk ⟨by rw[←b.tb];exact a.1,by rw[←b.cD];exact a.2⟩;have own:∀p,ma ((Qb ss).map λs=>(s,c.aF)) p->A.ow p=k+1:=λp g=>by
  obtain⟨x,r,z,B⟩:=AV.1 g;exact(h.jS hk r z B).2
 have cM:(Go.Ar.swp A k c ss).cM=A.cM:=b.cM;have tb:(Go.Ar.swp A k c ss).tb=A.tb:=b.tb;have runs:(Go.Ar.swp A k c ss).runs=A.runs:=b.runs;refine⟨b.pg,by rw[tb];exact h.tb,by rw[b.cD,tb];simp[h.lc],by rw[cM,tb];exact h.lt,λj d m a=>?_,λj d m a s y=>?_,λj d m a p=>?_,λp=>?_,λp=>?_,by rw[runs];exact h.gG,by rw[runs];exact h.kf,by rw[cM];exact h.pD,λj d m t a u=>?_,by rw[cM,tb];exact h.oO⟩
 ·rcases cl a with⟨rfl,rfl,rfl⟩|⟨hne,a⟩
  ·exact w.cF
  ·exact h.cD j d m a
 ·rcases cl a with⟨rfl,rfl,rfl⟩|⟨hne,a⟩
  ·exact h.one _ _ _ hk s (zI.1 y).1
  ·exact h.one j d m a s y
 ·by_cases g:ma ((Qb ss).map λs=>(s,c.aF)) p
  ·rw[(b.i p g).2];have E:=own p g;rcases cl a with⟨rfl,rfl,rfl⟩|⟨hne,a⟩
   ·rw[Ch w];constructor
    ·intro e;omega
    ·rintro⟨_,hn⟩;exact(hn (AV.1 g)).elim
   ·rw[←h.ow j d m a p,E];omega
  ·rw[(b.o p g).2];rcases cl a with⟨rfl,rfl,rfl⟩|⟨hne,a⟩
   ·rw[Ch w];show A.ow p=_↔_;rw[h.ow _ _ _ hk p];exact⟨λr=>⟨r,λF=>g (AV.2 F)⟩,λr=>r.1⟩
   ·exact h.ow j d m a p
 ·rw[runs];by_cases g:ma ((Qb ss).map λs=>(s,c.aF)) p
  ·rw[(b.i p g).2,←h.jP,own p g];omega
  ·rw[(b.o p g).2];exact h.jP p
 ·rw[tb];by_cases g:ma ((Qb ss).map λs=>(s,c.aF)) p
  ·rw[(b.i p g).2];omega
  ·rw[(b.o p g).2];exact h.qM p
 ·rw[cM]at u;rcases cl a with⟨rfl,rfl,rfl⟩|⟨hne,a⟩
  ·intro x r;exact(CU w).2 (h.lR _ _ _ t hk u x r)
  ·exact h.lR j d m t a u
theorem GA.BY (h:GA A)(hk:Cl A k c ss):Kp A (Go.Ar.swp A k c ss):=by
 have b:=h.qc hk;refine⟨b.n,b.tb,b.room,b.z,λp a=>?_⟩;by_cases hi:ma ((Qb ss).map λs=>(s,c.aF)) p
 ·rw[(b.i p hi).1]at a;omega
 ·rw[(b.o p hi).1]at a;exact a
theorem GA.Bl (h:GA A)(hk:Cl A k c ss){j:Nat}{x:Int}:fM (Go.Ar.swp A k c ss) j x↔fM A j x:=by
 have b:=h.qc hk;have a:=h.cD k c ss hk;have e:fM (Go.Ar.swp A k c ss) j x↔fM {A with cD:=A.cD.set k (cF ss)} j x:=by unfold fM Cl;rw[b.tb,b.cD]
 rw[e,xJ hk,CU a];constructor
 ·rintro(⟨rfl,hx⟩|⟨_,hx⟩)
  ·exact(KV hk).2 hx
  ·exact hx
 ·intro hx;by_cases hjk:j=k
  ·subst hjk;exact .inl ⟨rfl,(KV hk).1 hx⟩
  ·exact .inr ⟨hjk,hx⟩
theorem UY {k:Int}:A.ck k=true↔∃j:Nat,k=j/\j<A.tb.length:=by
 unfold AR.ck;simp only[zF,zU];constructor
 ·intro h;exact⟨k.toNat,O,O⟩
 ·rintro⟨j,rfl,h⟩;omega
structure Ob (A B:AR):Prop where
 ga:GA B
 kp:Kp A B
 runs:B.runs=A.runs
theorem FG (h:GA A)(k m:Int):Ob A (Ys A k m)/\(Ys A k m).cM=A.cM/\(X9 A k m).Nodup/\(X9 A k m≠[]->∃j:Nat,k=j/\j<A.tb.length)/\(∀x∈X9 A k m,¬fM A k.toNat (x:Int)) ∧
 ∀j y,fM (Ys A k m) j y↔fM A j y\/(j=k.toNat/\∃x∈X9 A k m,y=((x:Nat):Int)):=by
 by_cases h0:Qo A k m=0
 ·have p:A.ck k=true:=by
   unfold Qo at h0;split at h0
   ·assumption
   ·cases h0
  obtain⟨j,rfl,s⟩:=UY.1 p;obtain⟨c,ss,t,b,D⟩:=h.cl s;have r:Vi A (j:Int) m=QS c m.toNat ss:=by unfold Vi;rw[dE,b.1,b.2]
  have d:Ys A (j:Int) m = {A with cD:=A.cD.set j (QS c m.toNat ss).2}:=by unfold Ys;rw[zC h0,r,dE]
  have g:X9 A (j:Int) m=(QS c m.toNat ss).1:=by unfold X9;rw[zC h0,r]
  rw[d,g];obtain⟨s1,s2,C,B,z,u⟩:=Hz m.toNat (h.cD j c ss b);refine⟨⟨h.kK b s1 s2 λw e x a=>(u x).2 (.inr (h.lR j c ss w b e x a)),Kp.aF rfl rfl rfl rfl,rfl⟩,rfl,B,λ_=>⟨j,rfl,s⟩,λx a=>?_,λi y=>?_⟩
  ·rw[dE,KV b];exact z x a
  ·rw[xJ b,u,dE];by_cases hij:i=j
   ·subst hij;rw[KV b];constructor
    ·rintro(⟨_,a|a⟩|⟨a,_⟩)
     ·exact .inr ⟨rfl,a⟩
     ·exact .inl a
     ·exact(a rfl).elim
    ·rintro(a|⟨_,a⟩)
     ·exact .inl ⟨rfl,.inr a⟩
     ·exact .inl ⟨rfl,.inl a⟩
   ·constructor
    ·rintro(⟨a,_⟩|⟨_,a⟩)
     ·exact(hij a).elim
     ·exact .inl a
    ·rintro(a|⟨a,_⟩)
     ·exact .inr ⟨hij,a⟩
     ·exact(hij a).elim
 ·have d:Ys A k m=A:=by unfold Ys;rw[zB h0]
  have g:X9 A k m=[]:=by unfold X9;rw[zB h0]
  rw[d,g];exact⟨⟨h,Kp.refl A,rfl⟩,rfl,sF,by simp,by simp,by simp⟩
theorem FD {xs:List Int}(h:kq c ss xs):iB c ss xs=0:=by
 unfold iB;have b:xs.any (λx=>(dX c ss x).isNone)=false:=by
  rw[mA];intro x hx;rw[h.1 x hx];simp
 have a:xs.any (λx=>dX c ss x==some false)=false:=by
  rw[mA];intro x hx;rw[h.1 x hx];simp
 rw[b,a,zJ h.2];rfl
theorem HJ (h:GA A)(hk:Cl A k c ss)(xs:List Int):QH A (k:Int) xs=iB c ss xs:=by
 unfold QH;rw[UY.2 ⟨k,rfl,hk.lt⟩,zC rfl,dE,hk.1,hk.2]
theorem Ap (h:GA A){k:Int}{xs:List Int}(h0:QH A k xs=0):∃(j:Nat) (c:bZ) (ss:List cG),k=j/\Cl A j c ss/\kq c ss xs:=by
 have a:A.ck k=true:=by
  unfold QH at h0;split at h0
  ·assumption
  ·cases h0
 obtain⟨j,rfl,d⟩:=UY.1 a;obtain⟨c,ss,t,b,e⟩:=h.cl d;rw[HJ h b]at h0;exact⟨j,c,ss,rfl,b,D4 h0⟩
theorem Ab (h:GA A){k:Int}{xs:List Int}(hd:QH A k xs=0->∀x∈xs,¬gR A k.toNat x):Ob A (Zr A k xs)/\(Zr A k xs).cM=A.cM ∧
 (QH A k xs=0->∀j y,fM (Zr A k xs) j y↔fM A j y/\¬(j=k.toNat/\y∈xs))/\(QH A k xs≠0->Zr A k xs=A):=by
 by_cases h0:QH A k xs=0
 ·obtain⟨j,c,g,rfl,e,z⟩:=Ap h h0;obtain⟨B,C,u⟩:=EV xs (h.cD j c g e) z;have p:=h.kK e B C λt s x a=>(u x).2 ⟨h.lR j c g t e s x a,λw=>hd h0 x w ⟨t,by rw[dE];exact s,a⟩⟩;have d:=UH e (xs.foldl (fD c) g);have r:Zr A (j:Int) xs=swp {A with cD:=A.cD.set j (xs.foldl (fD c) g)} j c (xs.foldl (fD c) g):=by
   unfold Zr swp;rw[zC h0,dE,e.1,e.2];simp only[nr]
  have b:=p.qc d;rw[r];refine⟨⟨p.swp d,(Kp.aF rfl rfl rfl rfl:Kp A {A with cD:=A.cD.set j (xs.foldl (fD c) g)}).trans (p.BY d),b.runs⟩,b.cM,λ_ i y=>?_,λD=>(D h0).elim⟩;rw[p.Bl d,xJ e,u,dE];by_cases hij:i=j
  ·subst hij;rw[KV e];constructor
   ·rintro(⟨_,a,hy⟩|⟨a,_⟩)
    ·exact⟨a,λm=>hy m.2⟩
    ·exact(a rfl).elim
   ·rintro⟨a,hy⟩;exact .inl ⟨rfl,a,λm=>hy ⟨rfl,m⟩⟩
  ·constructor
   ·rintro(⟨a,_⟩|⟨_,a⟩)
    ·exact(hij a).elim
    ·exact⟨a,λm=>hij m.1⟩
   ·rintro⟨a,_⟩;exact .inr ⟨hij,a⟩
 ·have r:Zr A k xs=A:=by unfold Zr;rw[zB h0]
  rw[r];exact⟨⟨h,Kp.refl A,rfl⟩,rfl,λa=>(h0 a).elim,λ_=>rfl⟩
theorem GA.jT (h:GA A){k:Nat}{t':gD}(h1:t'.bs.flatten.Nodup)(h2:∀x∈t'.bs.flatten,fM A k x)(h3:∀c,A.tb[k]?=some c->∀xs∈t'.bs,xs.length=c.batch):GA {A with cM:=A.cM.set k t'}:=by
 have get:∀{j t},(A.cM.set k t')[j]?=some t->(j=k/\t=t')\/(j≠k/\A.cM[j]?=some t):=by
  intro j t a;by_cases hjk:j=k
  ·subst hjk;have e:j<A.cM.length:=by have:=(cW.1 a).1;simpa using this
   rw[zL e]at a;exact .inl ⟨rfl,(Option.some.inj a).symm⟩
  ·rw[zk (Ne.symm hjk)]at a;exact .inr ⟨hjk,a⟩
 refine⟨h.pg.same rfl rfl rfl rfl,h.tb,h.lc,by simp[h.lt],h.cD,h.one,h.ow,h.jP,h.qM,h.gG,h.kf,λj t a=>?_,λj c g t b a x d=>?_,λj c t b a=>?_⟩
 ·rcases get a with⟨rfl,rfl⟩|⟨_,a⟩
  ·exact h1
  ·exact h.pD j t a
 ·rcases get a with⟨rfl,rfl⟩|⟨_,a⟩
  ·exact(KV b).1 (h2 x d)
  ·exact h.lR j c g t b a x d
 ·rcases get a with⟨rfl,rfl⟩|⟨_,a⟩
  ·exact h3 c b
  ·exact h.oO j c t b a
theorem yf {t':gD}{j:Nat}{x:Int}(hk:k<A.cM.length):gR {A with cM:=A.cM.set k t'} j x↔(j=k/\x∈t'.bs.flatten)\/(j≠k/\gR A j x):=by
 by_cases hjk:j=k
 ·subst hjk;have a:(A.cM.set j t')[j]?=some t':=zL hk;constructor
  ·rintro⟨t,e,hx⟩;have e:(A.cM.set j t')[j]?=some t:=e;rw[a]at e;cases e;exact .inl ⟨rfl,hx⟩
  ·rintro(⟨_,hx⟩|⟨hx,_⟩)
   ·exact⟨_,a,hx⟩
   ·exact(hx rfl).elim
 ·have a:(A.cM.set k t')[j]?=A.cM[j]? := zk (Ne.symm hjk);constructor
  ·rintro⟨t,e,hx⟩;have e:(A.cM.set k t')[j]?=some t:=e;rw[a]at e;exact .inr ⟨hjk,t,e,hx⟩
  ·rintro(⟨hx,_⟩|⟨_,t,e,hx⟩)
   ·exact(hjk hx).elim
   ·exact⟨t,a.trans e,hx⟩
theorem Hh {t:gD}(ht:A.cM[k]?=some t){x:Int}:gR A k x↔x∈t.bs.flatten:=by
 constructor
 ·rintro⟨t',e,hx⟩;rw[ht]at e;cases e;exact hx
 ·intro hx;exact⟨t,ht,hx⟩
theorem C0 (h:GA A)(k:Int):Ob A (Zu A k)/\(∀j y,fM (Zu A k) j y↔fM A j y)/\(∀x∈Yn A k,gR A k.toNat x)/\(Yn A k).Nodup/\(Yn A k≠[]->∃j:Nat,k=j/\j<A.tb.length) ∧
 ∀j y,gR (Zu A k) j y↔gR A j y/\¬(j=k.toNat/\y∈Yn A k):=by
 by_cases h0:ZV A k=0
 ·have r:A.ck k=true:=by
   unfold ZV at h0;split at h0
   ·assumption
   ·cases h0
  obtain⟨j,rfl,C⟩:=UY.1 r;obtain⟨c,H,t,E,g⟩:=h.cl C;have hne:t.bs≠[]:=by
   intro e;unfold ZV at h0;rw[r,zC rfl,dE,g]at h0;simp[e]at h0
  have w:Zu A (j:Int) = {A with cM:=A.cM.set j t.rem}:=by unfold Zu;rw[zC h0,dE,KI g]
  have B:Yn A (j:Int)=t.bs.getLast?.getD []:=by unfold Yn;rw[zC h0,dE,g]
  have D:t.bs=t.bs.dropLast++[t.bs.getLast hne]:=(List.dropLast_concat_getLast hne).symm;have F:Yn A (j:Int)=t.bs.getLast hne:=by rw[B,List.getLast?_eq_some_getLast hne];rfl
  have d:t.bs.flatten=t.bs.dropLast.flatten++t.bs.getLast hne:=by
   conv=>lhs;rw[D]
   simp
  have p:=h.pD j t g;rw[d]at p;have b:=nK.1 p;have m:t.rem.bs=t.bs.dropLast:=rfl;rw[w,F];refine⟨⟨h.jT (by rw[m];exact b.1) (λx a=>(KV E).2 (h.lR j c H t E g x (by rw[d];exact kv _ a))) λG u J z=>h.oO j G t u g J ((List.dropLast_sublist _).subset z),Kp.aF rfl rfl rfl rfl,rfl⟩,λ_ _=>Iff.rfl,λx a=>?_,b.2.1,λ_=>⟨j,rfl,C⟩,λi y=>?_⟩
  ·rw[dE,Hh g,d];exact nF _ a
  ·rw[yf (by rw[h.lt];exact C),m,dE];by_cases hij:i=j
   ·subst hij;rw[Hh g,d,zK];constructor
    ·rintro(⟨_,a⟩|⟨a,_⟩)
     ·exact⟨.inl a,λs=>b.2.2 y a y s.2 rfl⟩
     ·exact(a rfl).elim
    ·rintro⟨a|a,s⟩
     ·exact .inl ⟨rfl,a⟩
     ·exact(s ⟨rfl,a⟩).elim
   ·constructor
    ·rintro(⟨a,_⟩|⟨_,a⟩)
     ·exact(hij a).elim
     ·exact⟨a,λs=>hij s.1⟩
    ·rintro⟨a,_⟩;exact .inr ⟨hij,a⟩
 ·have w:Zu A k=A:=by unfold Zu;rw[zB h0]
  have B:Yn A k=[]:=by unfold Yn;rw[zB h0]
  rw[w,B];exact⟨⟨h,Kp.refl A,rfl⟩,λ_ _=>Iff.rfl,by simp,sF,by simp,by simp⟩
theorem JJ (h:GA A)(k:Int){xs:List Int}(hn:xs.Nodup)(hd:∀x∈xs,¬gR A k.toNat x):Ob A (QT A k xs)/\(∀j y,fM (QT A k xs) j y↔fM A j y) ∧
 (KW A k xs=true->(∃j:Nat,k=j/\j<A.tb.length)/\(∀x∈xs,fM A k.toNat x)/\∀j y,gR (QT A k xs) j y↔gR A j y\/(j=k.toNat/\y∈xs))/\(KW A k xs=false->QT A k xs=A):=by
 by_cases h0:KW A k xs=true
 ·have C:UU A k xs=0:=by
   unfold KW at h0;simp only[zF,zU]at h0;exact h0.1
  have z:A.ck k=true:=by
   unfold UU at C;split at C
   ·assumption
   ·cases C
  obtain⟨j,rfl,E⟩:=UY.1 z;obtain⟨c,H,t,s,u⟩:=h.cl E;have g:=C;unfold UU at g;rw[z,zC rfl,dE,s.1,s.2]at g;simp only at g;have p:xs.length=c.batch:=by
   apply Classical.byContradiction;intro d;rw[zB d]at g;cases g
  rw[zC p]at g;have w:∀x∈xs,fM A j x:=by
   intro x d;split at g
   ·rename_i B;rw[j8]at B;rw[KV s];simpa[Tk]using B x d
   ·cases g
  have D:QT A (j:Int) xs = {A with cM:=A.cM.set j {t with bs:=t.bs++[xs]}}:=by unfold QT;rw[zC h0,dE,KI u]
  have r:(t.bs++[xs]).flatten=t.bs.flatten++xs:=by simp
  rw[D];refine⟨⟨h.jT ?_ ?_ ?_,Kp.aF rfl rfl rfl rfl,rfl⟩,λ_ _=>Iff.rfl,λ_=>⟨⟨j,rfl,E⟩,by rw[dE];exact w,λi y=>?_⟩,λF=>by rw[F]at h0;cases h0⟩
  ·show(t.bs++[xs]).flatten.Nodup;rw[r,nK];exact⟨h.pD j t u,hn,λa B b G e=>hd b G (by subst e;rw[dE,Hh u];exact B)⟩
  ·intro x d;have d:x∈(t.bs++[xs]).flatten:=d;rw[r,zK]at d;rcases d with d|d
   ·exact(KV s).2 (h.lR j c H t s u x d)
   ·exact w x d
  ·intro c' hc' ys m;have m:ys∈t.bs++[xs]:=m;rcases zK.1 m with m|m
   ·exact h.oO j c' t hc' u ys m
   ·simp only[zN]at m;rw[s.1]at hc';cases hc';rw[m];exact p
  ·rw[yf (by rw[h.lt];exact E),dE];show(i=j/\y∈(t.bs++[xs]).flatten)\/_↔_;rw[r,zK];by_cases hij:i=j
   ·subst hij;rw[Hh u];constructor
    ·rintro(⟨_,d|d⟩|⟨d,_⟩)
     ·exact .inl d
     ·exact .inr ⟨rfl,d⟩
     ·exact(d rfl).elim
    ·rintro(d|⟨_,d⟩)
     ·exact .inl ⟨rfl,.inl d⟩
     ·exact .inl ⟨rfl,.inr d⟩
   ·constructor
    ·rintro(⟨d,_⟩|⟨_,d⟩)
     ·exact(hij d).elim
     ·exact .inl d
    ·rintro(d|⟨d,_⟩)
     ·exact .inr ⟨hij,d⟩
     ·exact(hij d).elim
 ·have D:QT A k xs=A:=by unfold QT;rw[zB h0]
  rw[D];exact⟨⟨h,Kp.refl A,rfl⟩,λ_ _=>Iff.rfl,λd=>(h0 d).elim,λ_=>rfl⟩
end Go.Ar
namespace Go.Ar
open Go.Bu (Za Qy Y7 pG KP dC take QZ Kr Bounded full can Yr Us Zt QA ZE Q9 QG Z0 VC UI kP)
variable {A:AR}{sp:Sp}{k:Nat}{c:bZ}{ss:List cG}
structure Ow (A:AR) (sp:Sp):Prop where
 l:sp.st.length=A.n
 own:∀p,A.f p≠0->gf sp.st p≠0
 cl:∀p,A.f p=3->gf sp.st p=1
 le:∀p,gf sp.st p<=2
structure St (A B:AR) (sp sp':Sp):Prop where
 ga:GA B
 ow:Ow B sp'
 n:B.n=A.n
 tb:B.tb=A.tb
 room:B.room=A.room
 same:∀p,A.f p=0->B.f p=0->gf sp'.st p=gf sp.st p
 gone:∀p,A.f p≠0->B.f p=0->gf sp'.st p=0
 new:∀p,A.f p=0->B.f p≠0->gf sp.st p=0/\16<=p
theorem St.refl (h:GA A)(hw:Ow A sp):St A A sp sp:=⟨h,hw,rfl,rfl,rfl,λ_ _ _=>rfl,λp b a=>(b a).elim,λp b a=>(a b).elim⟩
theorem Ow.len {B C:AR}{sp sp':Sp}(h:Ow B sp)(k:Ow C sp')(e:C.n=B.n):sp'.st.length=sp.st.length:=by rw[h.l,k.l,e]
theorem St.trans {B C:AR}{sp' sp'':Sp}(h:St A B sp sp')(k:St B C sp' sp''):St A C sp sp'':=by
 refine⟨k.ga,k.ow,k.n.trans h.n,k.tb.trans h.tb,k.room.trans h.room,λp b a=>?_,λp b a=>?_,λp b a=>?_⟩
 ·by_cases hB:B.f p=0
  ·rw[k.same p hB a,h.same p b hB]
  ·rw[k.gone p hB a,(h.new p b hB).1]
 ·by_cases hB:B.f p=0
  ·rw[k.same p hB a,h.gone p b hB]
  ·exact k.gone p hB a
 ·by_cases hB:B.f p=0
  ·have:=k.new p hB a;rw[h.same p b hB]at this;exact this
  ·exact h.new p b hB
theorem Ow.kp {B:AR}(hw:Ow A sp)(h:Kp A B):Ow B sp:=⟨hw.l.trans h.n.symm,λp a=>hw.own p λe=>a ((h.z p).2 e),λp a=>hw.cl p (h.t p a),hw.le⟩
theorem St.kp {B:AR}(hg:GA B)(hw:Ow A sp)(h:Kp A B):St A B sp sp:=
 ⟨hg,hw.kp h,h.n,h.tb,h.room,λ_ _ _=>rfl,λp b a=>(b ((h.z p).1 a)).elim,λp b a=>(a ((h.z p).2 b)).elim⟩
theorem Ob.st {B:AR}(o:Ob A B)(hw:Ow A sp):St A B sp sp:=St.kp o.ga hw o.kp
theorem GA.grown (h:GA A){B:AR}{sp':Sp}{s size:Nat}(g:Grown A B sp sp' s size):GA B:=by
 have e:∀{j d tt},Cl B j d tt↔Cl A j d tt:=λ{j d tt}=>by unfold Cl;rw[g.tb,g.cD]
 exact⟨g.pg,by rw[g.tb];exact h.tb,by rw[g.cD,g.tb];exact h.lc,by rw[g.cM,g.tb];exact h.lt,λj d tt a=>h.cD j d tt (e.1 a),λj d tt a=>h.one j d tt (e.1 a),λj d tt a p=>by rw[g.ow];exact h.ow j d tt (e.1 a) p,
  λp=>by rw[g.ow,g.runs];exact h.jP p,λp=>by rw[g.ow,g.tb];exact h.qM p,by rw[g.runs];exact h.gG,by rw[g.runs];exact h.kf,by rw[g.cM];exact h.pD,λj d tt t a b=>h.lR j d tt t (e.1 a) (by rw[←g.cM];exact b),by rw[g.tb,g.cM];exact h.oO⟩
theorem Grown.st (h:GA A)(hw:Ow A sp){B:AR}{sp':Sp}{s size:Nat}(g:Grown A B sp sp' s size):St A B sp sp':=by
 have d:∀p,B.f p≠A.f p->s<=p/\p<s+size:=λp b=>by
  apply Classical.byContradiction;intro hn;exact b (g.o p hn).1
 refine⟨h.grown g,⟨g.l.trans (hw.l.trans g.n.symm),λp b=>?_,λp b=>?_,λp=>?_⟩,g.n,g.tb,g.room,λp j e=>?_,λp j e=>?_,λp j e=>?_⟩
 ·by_cases a:s<=p/\p<s+size
  ·rw[(g.i p a.1 a.2).2];omega
  ·rw[(g.o p a).2];rw[(g.o p a).1]at b;exact hw.own p b
 ·by_cases a:s<=p/\p<s+size
  ·rw[(g.i p a.1 a.2).2]
  ·rw[(g.o p a).2];rw[(g.o p a).1]at b;exact hw.cl p b
 ·by_cases a:s<=p/\p<s+size
  ·rw[(g.i p a.1 a.2).2];omega
  ·rw[(g.o p a).2];exact hw.le p
 ·refine(g.o p λa=>?_).2;rw[(g.i p a.1 a.2).1]at e;omega
 ·have:=d p O;rw[(g.i p this.1 this.2).1]at e;omega
 ·have:=d p O;exact⟨g.un p this.1 this.2,by have:=g.s1;omega⟩
theorem Ih {n:Nat}{S:Nat->Bool}(hb:Bounded S n)(hn:n<=1024){j q m a:Nat}(hf:full S j q=true)(hm:m<=2^j)(ha:a<=2^j):Y7 n S m a≠none:=by
 intro h0;have r:S (q*2^j)=true:=Yr.1 hf _ (Az _ (kz j));obtain⟨i,e⟩:=Us hb r;have g:j<=i:=by
  apply Classical.byContradiction;intro hlt;exact QA e hf rfl (Az _ (kz j)) O
 have s:=ZE hb (Zt.1 e).1;have d:i<11:=by
  apply Classical.byContradiction;intro hge;have:2^11<=2^i:=oI O O;omega
 have p:2^j<=2^i:=oI O g;have:=UI h0 i d O O;have b:=(QG hb (k:=i)).2 ⟨_,rfl,e⟩;rw[this]at b;simp at b
theorem Bh (m:Nat):QO m=16\/QO m=32\/QO m=64:=by
 unfold QO;split
 ·exact .inl rfl
 ·split
  ·exact .inr (.inl rfl)
  ·exact .inr (.inr rfl)
theorem IV {m:Nat}(h:m<=64):m<=QO m:=by
 unfold QO;split
 ·omega
 ·split<;>omega
theorem Dg (h:GA A)(hw:Ow A sp){m a no:Nat}(h1:1<=m)(h2:m<=64)(ha:1<=a/\a<=16) :
 (cZ A sp m a no=(none,A,sp)/\Y7 A.n A.S m a=none/\cY sp (QO (max m a))=none) ∨
 ∃x A1 sp1,cZ A sp m a no=(some x,dN A1 x m no,sp1)/\Y7 A1.n A1.S m a=some x/\(A1=A/\sp1=sp\/Y7 A.n A.S m a=none/\∃s,cY sp (QO (max m a))=some s/\Grown A A1 sp sp1 s (QO (max m a))):=by
 cases ht:Y7 A.n A.S m a with
 | some x=>exact .inr ⟨x,A,sp,by unfold cZ;rw[ht],ht,.inl ⟨rfl,rfl⟩⟩
 | none=>
  cases hg:Uu A sp (QO (max m a))with
  | none=>
   refine .inl ⟨by unfold cZ;rw[ht,hg],rfl,?_⟩;unfold Uu at hg;split at hg
   ·assumption
   ·cases hg
  | some r=>
   obtain⟨A1,sp1⟩:=r;obtain⟨s,w,g⟩:=OL h.pg hw.l (λp b=>Classical.byContradiction λC=>hw.own p C b) (Bh _) hg;have d:Y7 A1.n A1.S m a≠none:=by
    have z:=IV (m:=max m a) O;obtain⟨_,_,⟨i,B⟩,_⟩:=Uy (by have:=Bh (max m a);omega) w;have key:∃j,QO (max m a)=2^j:=by
     rcases Bh (max m a)with e|e|e
     ·exact⟨4,e⟩
     ·exact⟨5,e⟩
     ·exact⟨6,e⟩
    obtain⟨j,y⟩:=key;refine Ih g.pg.jq g.pg.n2 (j:=j) (q:=i) (Yr.2 λp b=>?_) O O;rw[g.pg.fr];rw[Z0,←y,←B]at b;rw[(g.i p b.1 b.2).1];omega
   obtain⟨x,u⟩:=Option.ne_none_iff_exists'.1 d;exact .inr ⟨x,A1,sp1,by unfold cZ;rw[ht,hg];simp only;rw[u],u,.inr ⟨rfl,s,w,g⟩⟩
theorem FF (h:PG A){m a x:Nat}(hx:Y7 A.n A.S m a=some x):∀p,x<=p->p<x+m->A.S p=true:=λp b d=>(kP h.jq hx).2 p b d
theorem I4 (h:PG A){m a x:Nat}(h1:1<=m)(h4:m<=4)(hx:Y7 A.n A.S m a=some x):x/16=(x+m-1)/16:=by
 obtain⟨j,_,b,_,d,_⟩:=VC hx;obtain⟨q,rfl,g⟩:=(QG h.jq).1 (List.mem_of_head? d)
 match j,b with
 | 0,b=>
  have:m=1:=by omega
  subst this;rfl
 | 1,b=>
  have:m<=2:=by omega
  simp only[Nat.pow_one]at *;omega
 | j+2,b=>
  have e:2^(j+2)=4*2^j:=by rw[Nat.pow_add];omega
  rw[e,←vQ,Nat.mul_comm q 4,vQ];generalize q*2^j=z;omega
theorem DL (h:PG A){a m no:Nat}(h1:1<=m)(hn:no≠0)(hS:∀p,a<=p->p<a+m->A.S p=true):Kp A (dN A a m no):=by
 obtain⟨o,d,e,g⟩:=Bx h h1 hn hS;refine⟨rfl,rfl,rfl,g,λp b=>?_⟩;by_cases hin:a<=p/\p<a+m
 ·rw[(d p hin.1 hin.2).1]at b;omega
 ·rw[o.f p hin]at b;exact b
theorem GA.pO (h:GA A)(hk:Cl A k c ss){x:Nat}(hS:∀p,x<=p->p<x+c.aF->A.S p=true)(h1:x/16=(x+c.aF-1)/16) :
 GA {dN A x c.aF (k+1)with cD:=(dN A x c.aF (k+1)).cD.set k (ig c ss x)}/\(∀s∈ss,s.st+c.aF<=x\/x+c.aF<=s.st):=by
 have u:=h.cD k c ss hk;have r:=u.pg;have C:=hk.lt;have B:=h.tb;obtain⟨o,m,pg,F⟩:=Bx h.pg r (no:=k+1) O hS;have i:∀p,x<=p->p<x+c.aF->A.ow p=0:=λp D E=>by
  have z:=(h.pg.fr p).1 (hS p D E);apply Classical.byContradiction;intro hne;have:=(h.pg.us p).2 hne;omega
 have hd:∀s∈ss,s.st+c.aF<=x\/x+c.aF<=s.st:=λs b=>by
  apply Classical.byContradiction;intro hn;have z:=i (max x s.st) O O;have:=(h.used hk b (p:=max x s.st) O O).2;omega
 refine⟨?_,hd⟩;have e:Cl (dN A x c.aF (k+1)) k c ss:=hk;refine⟨pg.same rfl rfl rfl rfl,h.tb,by show(A.cD.set k _).length=_;simp[h.lc];rfl,h.lt,λj d g a=>?_,λj d g a s b=>?_,λj d g a p=>?_,λp=>?_,λp=>?_,h.gG,h.kf,h.pD,λj d g t a w=>?_,h.oO⟩
 ·rcases Ud e a with⟨rfl,rfl,rfl⟩|⟨hne,a⟩
  ·exact Dr u hd
  ·exact h.cD j d g a
 ·rcases Ud e a with⟨rfl,rfl,rfl⟩|⟨hne,a⟩
  ·rcases Vf.1 b with rfl|b
   ·exact h1
   ·exact h.one _ _ _ hk s b
  ·exact h.one j d g a s b
 ·show(dN A x c.aF (k+1)).ow p=j+1↔_;by_cases hp:x<=p/\p<x+c.aF
  ·rw[(m p hp.1 hp.2).2];rcases Ud e a with⟨rfl,rfl,rfl⟩|⟨hne,a⟩
   ·exact⟨λ_=>⟨_,Vf.2 (.inl rfl),hp.1,hp.2⟩,λ_=>rfl⟩
   ·rw[←h.ow j d g a p,i p hp.1 hp.2];omega
  ·rw[o.ow p hp];rcases Ud e a with⟨rfl,rfl,rfl⟩|⟨hne,a⟩
   ·rw[h.ow _ _ _ hk p];constructor
    ·rintro⟨s,b,h3⟩;exact⟨s,Vf.2 (.inr b),h3⟩
    ·rintro⟨s,b,h3⟩;rcases Vf.1 b with rfl|b
     ·exact(hp h3).elim
     ·exact⟨s,b,h3⟩
   ·exact h.ow j d g a p
 ·show(dN A x c.aF (k+1)).ow p=41↔ma A.runs p;by_cases hp:x<=p/\p<x+c.aF
  ·rw[(m p hp.1 hp.2).2,←h.jP,i p hp.1 hp.2];omega
  ·rw[o.ow p hp];exact h.jP p
 ·show(dN A x c.aF (k+1)).ow p=41\/(dN A x c.aF (k+1)).ow p<=A.tb.length;by_cases hp:x<=p/\p<x+c.aF
  ·rw[(m p hp.1 hp.2).2];omega
  ·rw[o.ow p hp];exact h.qM p
 ·rcases Ud e a with⟨rfl,rfl,rfl⟩|⟨hne,a⟩
  ·intro y hy;exact(Fk u hd).2 (h.lR _ _ _ t hk w y hy)
  ·exact h.lR j d g t a w
theorem GA.tg (h:GA A){x m:Nat}(hm:1<=m)(hS:∀p,x<=p->p<x+m->A.S p=true):GA {dN A x m 41 with runs:=A.runs++[(x,m)]}:=by
 have z:=h.tb;obtain⟨o,e,pg,B⟩:=Bx h.pg hm (no:=41) O hS;have g:∀p,x<=p->p<x+m->A.ow p=0:=λp u y=>by
  have w:=(h.pg.fr p).1 (hS p u y);apply Classical.byContradiction;intro hne;have:=(h.pg.us p).2 hne;omega
 refine⟨pg.same rfl rfl rfl rfl,h.tb,h.lc,h.lt,h.cD,h.one,λj d tt b p=>?_,λp=>?_,λp=>?_,λr a=>?_,?_,h.pD,h.lR,h.oO⟩
 ·have b:Cl A j d tt:=b;have:=b.lt;show(dN A x m 41).ow p=j+1↔_;by_cases hp:x<=p/\p<x+m
  ·rw[(e p hp.1 hp.2).2,←h.ow j d tt b p,g p hp.1 hp.2];omega
  ·rw[o.ow p hp];exact h.ow j d tt b p
 ·show(dN A x m 41).ow p=41↔ma (A.runs++[(x,m)]) p;by_cases hp:x<=p/\p<x+m
  ·rw[(e p hp.1 hp.2).2];exact⟨λ_=>⟨(x,m),by simp,hp⟩,λ_=>rfl⟩
  ·rw[o.ow p hp,h.jP];constructor
   ·rintro⟨r,a,h3⟩;exact⟨r,by simp[a],h3⟩
   ·rintro⟨r,a,h3⟩;rcases zK.1 a with a|a
    ·exact⟨r,a,h3⟩
    ·simp only[zN]at a;subst a;exact(hp h3).elim
 ·show(dN A x m 41).ow p=41\/(dN A x m 41).ow p<=A.tb.length;by_cases hp:x<=p/\p<x+m
  ·rw[(e p hp.1 hp.2).2];omega
  ·rw[o.ow p hp];exact h.qM p
 ·rcases zK.1 a with a|a
  ·exact h.gG r a
  ·simp only[zN]at a;subst a;exact hm
 ·refine pA.2 ⟨h.kf,by simp,λr a s i=>?_⟩;simp only[zN]at i;subst i;apply Classical.byContradiction;intro hn;simp only at hn;have:=h.gG r a;have w:=g (max x r.1) O O;have:=(h.ji a (p:=max x r.1) O O).2;omega
theorem Sk {l:List (Nat×Nat)}{x m:Nat}(h:∀r∈l,r.1≠x):cA.mset2 l x m=l++[(x,m)]:=by
 unfold cA.mset2;rw[zB];simp only[kb,zT,not_exists,not_and];exact h
theorem GU (h:GA A)(hw:Ow A sp)(k:Int) :
 ((cL A sp k=(A,sp))/\KA A sp k≠0/\(A.ck k=true->KA A sp k=6)) ∨
 ∃(j:Nat) (c:bZ) (ss:List cG) (x:Nat) (A1:AR) (sp1:Sp),k=j/\Cl A j c ss/\Cl A1 j c ss/\KA A sp k=0/\cL A sp k=({dN A1 x c.aF (j+1)with cD:=(dN A1 x c.aF (j+1)).cD.set j (ig c ss x)},sp1) ∧
  St A A1 sp sp1/\A1.runs=A.runs/\A1.cM=A.cM/\A1.cD=A.cD/\Y7 A1.n A1.S c.aF 1=some x/\(∀s∈ss,s.st+c.aF<=x\/x+c.aF<=s.st)/\St A (cL A sp k).1 sp (cL A sp k).2:=by
 by_cases hck:A.ck k=true
 ·obtain⟨j,rfl,E⟩:=UY.1 hck;obtain⟨c,ss,t,b,H⟩:=h.cl E;have D:=h.cD j c ss b;have w:=D.ok;unfold bZ.ok at w;have F:=b.lt;rcases Dg h hw (m:=c.aF) (a:=1) (no:=j+1) O O O with⟨hg,_⟩|⟨x,A1,sp1,hg,htk,hor⟩
  ·left;have y:KA A sp (j:Int)=6:=by unfold KA;rw[hck,zC rfl,dE,b.1,b.2];simp only;rw[hg]
   have C:cL A sp (j:Int)=(A,sp):=by unfold cL;rw[hck,zC rfl,dE,b.1,b.2];simp only;rw[hg]
   rw[C,y];exact⟨rfl,by simp,λ_=>rfl⟩
  ·right;have y:KA A sp (j:Int)=HY c ss x:=by unfold KA;rw[hck,zC rfl,dE,b.1,b.2];simp only;rw[hg]
   have u:GA A1:=by
    rcases hor with⟨rfl,rfl⟩|⟨_,s,_,g⟩
    ·exact h
    ·exact h.grown g
   have d:St A A1 sp sp1:=by
    rcases hor with⟨rfl,rfl⟩|⟨_,s,_,g⟩
    ·exact St.refl h hw
    ·exact g.st h hw
   have e:A1.runs=A.runs/\A1.cM=A.cM/\A1.cD=A.cD:=by
    rcases hor with⟨rfl,rfl⟩|⟨_,s,_,g⟩
    ·exact⟨rfl,rfl,rfl⟩
    ·exact⟨g.runs,g.cM,g.cD⟩
   have r:Cl A1 j c ss:=⟨by rw[d.tb];exact b.1,by rw[e.2.2];exact b.2⟩;have z:=FF u.pg htk;obtain⟨G,hd⟩:=u.pO r z (I4 u.pg O O htk);have B:=LW hd;have p:cL A sp (j:Int)=({dN A1 x c.aF (j+1)with cD:=(dN A1 x c.aF (j+1)).cD.set j (ig c ss x)},sp1):=by
    unfold cL;rw[hck,zC rfl,dE,b.1,b.2];simp only;rw[hg];simp only;rw[zC B]
   refine⟨j,c,ss,x,A1,sp1,rfl,b,r,by rw[y];exact B,p,d,e.1,e.2.1,e.2.2,htk,hd,?_⟩;rw[p];have kp:=DL u.pg (no:=j+1) O O z;exact d.trans (St.kp G d.ow (kp.trans (Kp.aF rfl rfl rfl rfl)))
 ·left;have i:A.ck k=false:=by simpa using hck
  unfold cL KA;rw[i];exact⟨rfl,by simp,λh=>by cases h⟩
theorem F6 (h:GA A)(hw:Ow A sp)(k:Int):St A (cL A sp k).1 sp (cL A sp k).2/\(cL A sp k).1.runs=A.runs/\(cL A sp k).1.cM=A.cM/\(∀j y,fM (cL A sp k).1 j y↔fM A j y)/\(KA A sp k≠0->cL A sp k=(A,sp)):=by
 rcases GU h hw k with⟨e,_⟩|⟨j,c,ss,x,A1,sp1,rfl,hk,hk1,hE,e,hst,r1,r2,r3,_,hd,hS⟩
 ·rw[e];exact⟨St.refl h hw,rfl,rfl,λ_ _=>Iff.rfl,λ_=>rfl⟩
 ·refine⟨hS,by rw[e];exact r1,by rw[e];exact r2,λi y=>?_,λd=>(d hE).elim⟩;rw[e];have b:Cl (dN A1 x c.aF (j+1)) j c ss:=hk1;rw[xJ b,Fk (h.cD j c ss hk) hd];have e2:fM (dN A1 x c.aF (j+1)) i y↔fM A i y:=by
   have:(dN A1 x c.aF (j+1)).tb=A.tb/\(dN A1 x c.aF (j+1)).cD=A.cD:=⟨hst.tb,r3⟩;unfold fM Cl;rw[this.1,this.2]
  rw[e2];by_cases hij:i=j
  ·subst hij;rw[KV hk];exact⟨λa=>by rcases a with⟨_,a⟩|⟨a,_⟩;exact a;exact(a rfl).elim,λa=>.inl ⟨rfl,a⟩⟩
  ·exact⟨λa=>by rcases a with⟨a,_⟩|⟨_,a⟩;exact(hij a).elim;exact a,λa=>.inr ⟨hij,a⟩⟩
theorem OV {m a:Int}(h:Q4 m a=true):∃x y:Nat,m=x/\a=y/\1<=x/\x<=64/\(y=1\/y=2\/y=4\/y=8\/y=16):=by
 unfold Q4 at h;simp only[zF,zU,nj,zT]at h;exact⟨m.toNat,a.toNat,O,O,O,O,O⟩
theorem PE (h:GA A)(hw:Ow A sp)(m a:Int) :
 (cA A sp m a=(A,sp)/\Qh A sp m a≠0/\(Q4 m a=true->Qh A sp m a=6/\Y7 A.n A.S m.toNat a.toNat=none/\cY sp (QO (max m.toNat a.toNat))=none)) ∨
 ∃(x:Nat) (A1:AR) (sp1:Sp),Q4 m a=true/\Qh A sp m a=0/\ZT A sp m a=x/\cA A sp m a=({dN A1 x m.toNat 41 with runs:=A.runs++[(x,m.toNat)]},sp1) ∧
  Y7 A1.n A1.S m.toNat a.toNat=some x/\(A1=A/\sp1=sp\/Y7 A.n A.S m.toNat a.toNat=none/\∃s,cY sp (QO (max m.toNat a.toNat))=some s/\Grown A A1 sp sp1 s (QO (max m.toNat a.toNat))) ∧
  St A (cA A sp m a).1 sp (cA A sp m a).2/\(cA A sp m a).1.cM=A.cM/\(∀j y,fM (cA A sp m a).1 j y↔fM A j y):=by
 by_cases hp:Q4 m a=true
 ·obtain⟨b,u,rfl,rfl,J,L,Q⟩:=OV hp;have G:Qh A sp (b:Int) (u:Int)=if(cZ A sp b u 41).1.isSome then 0 else 6:=by unfold Qh;rw[zC hp,dE,dE]
  have M:ZT A sp (b:Int) (u:Int)=(cZ A sp b u 41).1.getD 0:=by unfold ZT;rw[zC hp,dE,dE]
  rcases Dg h hw (m:=b) (a:=u) (no:=41) J L O with⟨hg,hn1,hn2⟩|⟨x,A1,sp1,hg,htk,hor⟩
  ·left;have H:cA A sp (b:Int) (u:Int)=(A,sp):=by unfold cA;rw[zC hp,dE,dE,hg]
   rw[H,G,hg,dE,dE];exact⟨rfl,by simp,λ_=>⟨rfl,hn1,hn2⟩⟩
  ·right;have z:GA A1:=by
    rcases hor with⟨rfl,rfl⟩|⟨_,s,_,g⟩
    ·exact h
    ·exact h.grown g
   have w:St A A1 sp sp1:=by
    rcases hor with⟨rfl,rfl⟩|⟨_,s,_,g⟩
    ·exact St.refl h hw
    ·exact g.st h hw
   have d:A1.runs=A.runs/\A1.cM=A.cM/\A1.cD=A.cD:=by
    rcases hor with⟨rfl,rfl⟩|⟨_,s,_,g⟩
    ·exact⟨rfl,rfl,rfl⟩
    ·exact⟨g.runs,g.cM,g.cD⟩
   have D:=FF z.pg htk;have C:∀r∈A.runs,r.1≠x:=λr K e=>by
    have B:r∈A1.runs:=by rw[d.1];exact K
    have:=z.gG r B;have R:=(z.ji B (p:=x) O O).1;have P:=(z.pg.fr x).1 (D x O O);omega
   have i:cA A sp (b:Int) (u:Int)=({dN A1 x b 41 with runs:=A.runs++[(x,b)]},sp1):=by
    unfold cA;rw[zC hp,dE,dE,hg];show({dN A1 x b 41 with runs:=cA.mset2 A1.runs x b},sp1)=_;rw[d.1,Sk C]
   have F:=z.tg O D;rw[d.1]at F;have kp:=DL z.pg (no:=41) O O D;refine⟨x,A1,sp1,hp,by rw[G,hg];rfl,by rw[M,hg];rfl,by rw[dE];exact i,by rw[dE,dE];exact htk,by rw[dE,dE];exact hor,?_,by rw[i];exact d.2.1,λj y=>?_⟩
   ·rw[i];exact w.trans (St.kp F w.ow (kp.trans (Kp.aF rfl rfl rfl rfl)))
   ·rw[i];have e1:({dN A1 x b 41 with runs:=A.runs++[(x,b)]}:AR).tb=A.tb:=w.tb;have e2:({dN A1 x b 41 with runs:=A.runs++[(x,b)]}:AR).cD=A.cD:=d.2.2;unfold fM Cl;rw[e1,e2]
 ·left;have E:Q4 m a=false:=by simpa using hp
  unfold cA Qh;rw[E];exact⟨rfl,by simp,λN=>by cases N⟩
theorem Ji {x:Int}{r:Nat×Nat}(h:pB A x=some r):r∈A.runs/\x=(r.1:Int):=by
 unfold pB at h;exact⟨tj h,by have:=sP h;simpa using Eq.symm (by simpa using this)⟩
theorem N4 (h:GA A)(x:Int):(Kp A (Qp A x)/\GA (Qp A x))/\(Qp A x).cM=A.cM/\(∀j y,fM (Qp A x) j y↔fM A j y)/\(KG A x≠0->Qp A x=A) ∧
 (KG A x=0->∃r∈A.runs,x=(r.1:Int)/\(Qp A x).runs=A.runs.filter λq=>!(q==r)):=by
 cases hr:pB A x with
 | none=>
  have e:Qp A x=A:=by unfold Qp;rw[hr]
  have C:KG A x=8:=by unfold KG;rw[hr];rfl
  rw[e,C];exact⟨⟨Kp.refl A,h⟩,rfl,λ_ _=>Iff.rfl,λ_=>rfl,λi=>by cases i⟩
 | some r=>
  obtain⟨b,i⟩:=Ji hr;have z:=h.gG r b;have u:A.runs.filter (λq=>!((q.1:Int)==x))=A.runs.filter λq=>!(q==r):=by
   apply vI;intro q g;have:((q.1:Int)==x)=(q==r):=by
    rw[lQ];simp only[zT];constructor
    ·intro e;have J:=h.gG q g;exact h.gJ g b (x:=q.1) O O O O
    ·rintro rfl;exact i.symm
   rw[this]
  have e:Qp A x=VG {A with runs:=A.runs.filter λq=>!(q==r)} r:=by unfold Qp;rw[hr];simp only;rw[u]
  have C:KG A x=0:=by unfold KG;rw[hr];rfl
  obtain⟨a,m⟩:=r;obtain⟨o,B,pg,H⟩:=Em (A:={A with runs:=A.runs.filter λq=>!(q==(a,m))}) (h.pg.same rfl rfl rfl rfl) z (λp D F=>(h.ji b D F).1);have own:∀p,a<=p->p<a+m->A.ow p=41:=λp D F=>(h.ji b D F).2;have G:=h.tb;rw[e,C];refine⟨⟨⟨rfl,rfl,rfl,H,λp E=>?_⟩,?_⟩,rfl,λ_ _=>Iff.rfl,λi=>(i rfl).elim,λ_=>⟨_,b,i,rfl⟩⟩
  ·by_cases hin:a<=p/\p<a+m
   ·rw[(B p hin.1 hin.2).1]at E;omega
   ·rw[o.f p hin]at E;exact E
  ·refine⟨pg,h.tb,h.lc,h.lt,h.cD,h.one,λj d tt w p=>?_,λp=>?_,λp=>?_,λq g=>h.gG q (zI.1 g).1,h.kf.filter _,h.pD,h.lR,h.oO⟩
   ·have w:Cl A j d tt:=w;have:=w.lt;by_cases hin:a<=p/\p<a+m
    ·rw[(B p hin.1 hin.2).2,←h.ow j d tt w p,own p hin.1 hin.2];omega
    ·rw[o.ow p hin];exact h.ow j d tt w p
   ·show _↔ma (A.runs.filter λq=>!(q==(a,m))) p;by_cases hin:a<=p/\p<a+m
    ·rw[(B p hin.1 hin.2).2];constructor
     ·intro i;omega
     ·rintro⟨q,g,q1,q2⟩;have s:=zI.1 g;have:=h.gJ s.1 b q1 q2 hin.1 hin.2;subst this;simp at s
    ·rw[o.ow p hin];show A.ow p=41↔_;rw[h.jP];constructor
     ·rintro⟨q,g,q1⟩;refine⟨q,zI.2 ⟨g,?_⟩,q1⟩;have:q≠(a,m):=by rintro rfl;exact hin q1
      simpa using this
     ·rintro⟨q,g,q1⟩;exact⟨q,(zI.1 g).1,q1⟩
   ·by_cases hin:a<=p/\p<a+m
    ·rw[(B p hin.1 hin.2).2];omega
    ·rw[o.ow p hin];exact h.qM p
theorem Au (k:Nat):∀(outs:List (List Int)) {A:AR},GA A->outs.flatten.Nodup->(∀x∈outs.flatten,fM A k x/\¬gR A k x) →
 Ob A (outs.foldl (λA' xs=>Zr A' (k:Int) xs) A)/\(outs.foldl (λA' xs=>Zr A' (k:Int) xs) A).cM=A.cM/\∀j y,fM (outs.foldl (λA' xs=>Zr A' (k:Int) xs) A) j y↔fM A j y/\¬(j=k/\y∈outs.flatten)
 | [],A,h,_,_=>⟨⟨h,Kp.refl A,rfl⟩,rfl,by simp⟩
 | xs::outs,A,h,hn,ht=>by
  rw[wg]at hn ht;have hn':=nK.1 hn;have p:∀x∈xs,fM A k x/\¬gR A k x:=λx i=>ht x (kv _ i);rw[pS];cases xs with
  | nil=>
   have u:Zr A (k:Int) []=A\/QH A (k:Int) []=0:=by
    by_cases w:QH A (k:Int) []=0
    ·exact .inr w
    ·exact .inl (by unfold Zr;rw[zB w])
   obtain⟨o,e,t,_⟩:=Ab h (k:=(k:Int)) (xs:=[]) (λ_=>by simp);have s:∀j y,fM (Zr A (k:Int) []) j y↔fM A j y:=λj y=>by
    rcases u with u|u
    ·rw[u]
    ·rw[t u];simp
   have m:∀j y,gR (Zr A (k:Int) []) j y↔gR A j y:=λj y=>by unfold gR;rw[e]
   obtain⟨o2,e2,z⟩:=Au k outs o.ga hn'.2.1 λx i=>by rw[s,m];exact ht x (nF _ i)
   exact⟨⟨o2.ga,o.kp.trans o2.kp,o2.runs.trans o.runs⟩,e2.trans e,λj y=>by rw[z,s];simp⟩
  | cons x0 xs=>
   obtain⟨c,C,B,_⟩:=(p x0 aA).1;have w:QH A (k:Int) (x0::xs)=0:=by
    rw[HJ h B];exact FD ⟨λx i=>(KV B).1 (p x i).1,hn'.1⟩
   obtain⟨o,e,t,_⟩:=Ab h (k:=(k:Int)) (xs:=x0::xs) (λ_ x i=>by rw[dE];exact(p x i).2);have s:=t w;have m:∀j y,gR (Zr A (k:Int) (x0::xs)) j y↔gR A j y:=λj y=>by unfold gR;rw[e]
   obtain⟨o2,e2,z⟩:=Au k outs o.ga hn'.2.1 λx i=>by
    rw[s,m];have:=ht x (nF _ i);exact⟨⟨this.1,λg=>hn'.2.2 x g.2 x i rfl⟩,this.2⟩
   refine⟨⟨o2.ga,o.kp.trans o2.kp,o2.runs.trans o.runs⟩,e2.trans e,λj y=>?_⟩;rw[z,s,dE,wg,zK];constructor
   ·rintro⟨⟨a,b⟩,d⟩;refine⟨a,λ⟨r,g⟩=>?_⟩;rcases g with g|g
    ·exact b ⟨r,g⟩
    ·exact d ⟨r,g⟩
   ·rintro⟨a,b⟩;exact⟨⟨a,λ⟨r,g⟩=>b ⟨r,.inl g⟩⟩,λ⟨r,g⟩=>b ⟨r,.inr g⟩⟩
structure sQ (A B:AR):Prop where
 ob:Ob A B
 sub:∀j y,gR B j y->gR A j y
 tk:∀j y,fM B j y↔fM A j y/\(gR A j y->gR B j y)
theorem sQ.trans {B C:AR}(h:sQ A B)(k:sQ B C):sQ A C:=
 ⟨⟨k.ob.ga,h.ob.kp.trans k.ob.kp,k.ob.runs.trans h.ob.runs⟩,λj y g=>h.sub j y (k.sub j y g),λj y=>by
  rw[k.tk,h.tk];exact⟨λ⟨⟨a,b⟩,d⟩=>⟨a,λe=>d (b e)⟩,λ⟨a,b⟩=>⟨⟨a,λe=>k.sub j y (b e)⟩,λe=>b (h.sub j y e)⟩⟩⟩
theorem Iy (h:GA A)(hk:k<A.tb.length):sQ A (tQ A k):=by
 obtain⟨c,H,t,E,m⟩:=h.cl hk;have u:k<A.cM.length:=by rw[h.lt];exact hk
 have e:tQ A k=t.out.foldl (λA' w=>Zr A' (k:Int) w) {A with cM:=A.cM.set k t.tick}:=by unfold tQ;rw[m]
 have C:t.bs=t.out++t.tick.bs:=(nH ((t.low+1)/2) t.bs).symm;have i:t.bs.flatten=t.out.flatten++t.tick.bs.flatten:=by conv=>lhs;rw[C];rw[List.flatten_append]
 have s:=h.pD k t m;rw[i]at s;have g:=nK.1 s;have r:∀x∈t.bs.flatten,fM A k x:=λx d=>(KV E).2 (h.lR k c H t E m x d);have G:GA {A with cM:=A.cM.set k t.tick}:=h.jT g.2.1 (λx d=>r x (by rw[i];exact nF _ d)) λF z w B=>h.oO k F t z m w (t.nS w B);obtain⟨o,e2,D⟩:=Au k t.out G g.1 λx d=>by
  refine⟨r x (by rw[i];exact kv _ d),?_⟩;rw[yf u];rintro(⟨_,hy⟩|⟨hy,_⟩)
  ·exact g.2.2 x d x hy rfl
  ·exact hy rfl
 rw[←e]at o e2 D;have p:∀j y,gR (tQ A k) j y↔(j=k/\y∈t.tick.bs.flatten)\/(j≠k/\gR A j y):=λj y=>by
  rw[←yf u];unfold gR;rw[e2]
 refine⟨⟨o.ga,(Kp.aF rfl rfl rfl rfl:Kp A {A with cM:=A.cM.set k t.tick}).trans o.kp,o.runs⟩,λj y d=>?_,λj y=>?_⟩
 ·rcases(p j y).1 d with⟨rfl,hy⟩|⟨_,hy⟩
  ·rw[Hh m,i];exact nF _ hy
  ·exact hy
 ·rw[D,p];show fM A j y/\_↔_;by_cases hjk:j=k
  ·subst hjk;rw[Hh m,i,zK];constructor
   ·rintro⟨a,b⟩;refine⟨a,λd=>?_⟩;rcases d with d|d
    ·exact(b ⟨rfl,d⟩).elim
    ·exact .inl ⟨rfl,d⟩
   ·rintro⟨a,b⟩;refine⟨a,λ⟨_,d⟩=>?_⟩;rcases b (.inl d)with⟨_,hy⟩|⟨hy,_⟩
    ·exact g.2.2 y d y hy rfl
    ·exact hy rfl
  ·exact⟨λ⟨a,_⟩=>⟨a,λd=>.inr ⟨hjk,d⟩⟩,λ⟨a,_⟩=>⟨a,λ⟨d,_⟩=>hjk d⟩⟩
theorem Dt (h:GA A):∀m,m<=A.tb.length->sQ A ((List.range m).foldl tQ A)
 | 0,_=>⟨⟨h,Kp.refl A,rfl⟩,λ_ _=>id,λ_ _=>⟨λa=>⟨a,id⟩,λa=>a.1⟩⟩
 | m+1,hm=>by
  have t:=Dt h m O;rw[pT,wO,pS,List.foldl_nil];exact t.trans (Iy t.ob.ga (by rw[t.ob.kp.tb];omega))
theorem N1 (h:GA A):sQ A (qN A):=Dt h _ (by rw[h.lt];exact zD _)
end Go.Ar
namespace Go.Ar
open Go.Bu (Za Qy Y7 pG KP dC take QZ Kr Bounded)
variable {A:AR}{sp:Sp}{k:Nat}{c:bZ}{ss:List cG}
end Go.Ar
namespace Go.Ar
structure Pc where
 k:Nat
 cls:Int
 addr:Nat
 size:Nat
 eJ:Bool
 deriving DecidableEq
structure Wd where
 tb:List bZ
 sp:Sp
 bX:List AR
 held:List Pc
structure Act where
 kd:Int
 ar:Int
 cl:Int
 a:Int
 b:Int
 l:List Int
abbrev Key:=Nat×Int×Nat
def Pc.key (p:Pc):Key:=(p.k,p.cls,p.addr)
def lI (k:Nat)(cls x:Int)(p:Pc):Bool:=p.k==k&&(p.cls==cls&&((p.addr:Int)==x && !p.eJ))
def uG (held:List Pc)(k:Nat)(cls x:Int):Option Nat:=held.findIdx? (lI k cls x)
def jg (held:List Pc)(k:Nat)(cls:Int)(l:List Int):Bool:=l.all (λx=>(uG held k cls x).isSome)&&decide l.Nodup
def lL (k:Nat)(cls:Int)(held:List Pc)(x:Int):List Pc:=match uG held k cls x with
 | some i=>held.take i++held.drop (i+1)
 | none=>held
def wo (held:List Pc)(k:Nat)(cls:Int)(l:List Int):List Pc:=l.foldl (lL k cls) held
def dV (k:Nat)(cls:Int)(l:List Int)(p:Pc):Bool:=p.k==k&&(p.cls==cls&&l.contains (p.addr:Int))
def Hv (held:List Pc)(k:Nat)(cls:Int)(l:List Int)(m:Bool):List Pc:=held.map λp=>if dV k cls l p then{p with eJ:=m}else p
def xE (us:List AR)(held:List Pc):List Pc:=held.filter λp=>!p.eJ||(match us[p.k]? with
 | some A=>uO A (p.addr:Int)
 | none=>false)
def oR (tb:List bZ)(k:Int):Nat:=((tb[k.toNat]?).map (·.size)).getD 0
def Wd.put (W:Wd)(k:Nat)(A:AR)(sp:Sp)(held:List Pc):Wd:={W with sp:=sp,bX:=W.bX.set k A,held:=held}
def Hd (A:AR)(p:Pc):Prop:=(p.cls = -1/\p.eJ=false/\∃r∈A.runs,p.addr=r.1*256/\p.size=r.2*256) ∨
 ∃(j:Nat) (c:bZ),p.cls=j/\A.tb[j]?=some c/\p.size=c.size/\fM A j (p.addr:Int)/\(p.eJ=true↔gR A j (p.addr:Int))
structure WI (W:Wd):Prop where
 ga:∀(k:Nat) (A:AR),W.bX[k]?=some A->GA A
 ow:∀(k:Nat) (A:AR),W.bX[k]?=some A->Ow A W.sp
 tb:∀(k:Nat) (A:AR),W.bX[k]?=some A->A.tb=W.tb
 low:∀(k:Nat) (A:AR),W.bX[k]?=some A->∀p,p<16->A.f p=0
 own:∀p,gf W.sp.st p≠0->∃(k:Nat) (A:AR),W.bX[k]?=some A/\A.f p≠0
 one:∀p (k l:Nat) (A B:AR),W.bX[k]?=some A->W.bX[l]?=some B->A.f p≠0->B.f p≠0->k=l
 hk:(W.held.map Pc.key).Nodup
 hf:∀p∈W.held,∃A,W.bX[p.k]?=some A/\Hd A p
 ht:∀(k:Nat) (A:AR),W.bX[k]?=some A->∀(j:Nat) (y:Int),fM A j y->∃p∈W.held,p.k=k/\p.cls=j/\(p.addr:Int)=y
 hr:∀(k:Nat) (A:AR),W.bX[k]?=some A->∀r∈A.runs,∃p∈W.held,p.k=k/\p.cls = -1/\p.addr=r.1*256
variable {W:Wd}{k:Nat}{A:AR}
theorem KM {α:Type}{l:List α}{k j:Nat}{x y:α}(h:(l.set k x)[j]?=some y):(j=k/\y=x/\k<l.length)\/(j≠k/\l[j]?=some y):=by
 by_cases hjk:j=k
 ·subst hjk;have a:j<l.length:=by have:=(cW.1 h).1;simpa using this
  rw[zL a]at h;exact .inl ⟨rfl,(Option.some.inj h).symm,a⟩
 ·rw[zk (Ne.symm hjk)]at h;exact .inr ⟨hjk,h⟩
theorem WI.unique (h:WI W){p q:Pc}(hp:p∈W.held)(hq:q∈W.held)(e:p.key=q.key):p=q:=by
 obtain⟨i,g⟩:=zQ hp;obtain⟨j,d⟩:=zQ hq;obtain⟨a,rfl⟩:=cW.1 g;obtain⟨b,rfl⟩:=cW.1 d;have:=mg.1 h.hk;rcases px i j with hl|hl|hl
 ·exact(this i j (by simpa using a) (by simpa using b) hl (by simpa using e)).elim
 ·subst hl;rfl
 ·exact(this j i (by simpa using b) (by simpa using a) hl (by simpa using e.symm)).elim
theorem WI.step (h:WI W)(hk:W.bX[k]?=some A){B:AR}{sp':Sp}{held':List Pc}(s:St A B W.sp sp')(h1:(held'.map Pc.key).Nodup)(h2:∀p∈held',p.k=k->Hd B p)(h3:∀p,p.k≠k->(p∈held'↔p∈W.held))
 (h4:∀(j:Nat) (y:Int),fM B j y->∃p∈held',p.k=k/\p.cls=j/\(p.addr:Int)=y) (h5:∀r∈B.runs,∃p∈held',p.k=k/\p.cls = -1/\p.addr=r.1*256):WI (W.put k B sp' held'):=by
 have F:=(cW.1 hk).1;have m:(W.bX.set k B)[k]?=some B:=zL F;have G:∀{j:Nat} {C:AR},j≠k->W.bX[j]?=some C->(W.bX.set k B)[j]?=some C:=λa e=>(zk (Ne.symm a)).trans e;have g:∀{j:Nat} {C:AR},j≠k->W.bX[j]?=some C->∀p,C.f p≠0->A.f p=0/\B.f p=0/\gf sp'.st p=gf W.sp.st p:=by
  intro j C a e p b;have u:A.f p=0:=Classical.byContradiction λx=>a (h.one p j k C A e hk b x);have w:B.f p=0:=Classical.byContradiction λx=>by
   have:=(s.new p u x).1;exact(h.ow j C e).own p b this
  exact⟨u,w,s.same p u w⟩
 refine⟨λj C a=>?_,λj C a=>?_,λj C a=>?_,λj C a p b=>?_,λp b=>?_,λp j l C D a H e z=>?_,h1,λp b=>?_,λj C a i y J=>?_,λj C a r hr=>?_⟩
 ·rcases KM a with⟨rfl,rfl,_⟩|⟨_,a⟩
  ·exact s.ga
  ·exact h.ga j C a
 ·rcases KM a with⟨rfl,rfl,_⟩|⟨d,a⟩
  ·exact s.ow
  ·have o:=h.ow j C a;have L:=h.ow k A hk;refine⟨?_,λp b=>?_,λp b=>?_,s.ow.le⟩
   ·show sp'.st.length=C.n;rw[s.ow.l,s.n,←L.l,o.l]
   ·show gf sp'.st p≠0;rw[(g d a p b).2.2];exact o.own p b
   ·show gf sp'.st p=1;rw[(g d a p O).2.2];exact o.cl p b
 ·rcases KM a with⟨rfl,rfl,_⟩|⟨_,a⟩
  ·exact s.tb.trans (h.tb _ A hk)
  ·exact h.tb j C a
 ·rcases KM a with⟨rfl,rfl,_⟩|⟨_,a⟩
  ·apply Classical.byContradiction;intro x;have:=s.new p (h.low _ A hk p b) x;omega
  ·exact h.low j C a p b
 ·have b:gf sp'.st p≠0:=b;by_cases w:B.f p=0
  ·by_cases u:A.f p=0
   ·rw[s.same p u w]at b;obtain⟨j,C,a,e⟩:=h.own p b;have d:j≠k:=by
     rintro rfl;rw[hk]at a;cases a;exact e u
    exact⟨j,C,G d a,e⟩
   ·exact(b (s.gone p u w)).elim
  ·exact⟨k,B,m,w⟩
 ·rcases KM a with⟨rfl,rfl,_⟩|⟨d,hj'⟩
  ·rcases KM H with⟨rfl,rfl,_⟩|⟨hne2,hl'⟩
   ·rfl
   ·exact(e (g hne2 hl' p z).2.1).elim
  ·rcases KM H with⟨rfl,rfl,_⟩|⟨hne2,hl'⟩
   ·exact(z (g d hj' p e).2.1).elim
   ·exact h.one p j l C D hj' hl' e z
 ·by_cases hpk:p.k=k
  ·exact⟨B,by rw[hpk];exact m,h2 p b hpk⟩
  ·obtain⟨C,e,K⟩:=h.hf p ((h3 p hpk).1 b);exact⟨C,G hpk e,K⟩
 ·rcases KM a with⟨rfl,rfl,_⟩|⟨d,a⟩
  ·exact h4 i y J
  ·obtain⟨p,b,e1,e2,E⟩:=h.ht j C a i y J;exact⟨p,(h3 p (by rw[e1];exact d)).2 b,e1,e2,E⟩
 ·rcases KM a with⟨rfl,rfl,_⟩|⟨d,a⟩
  ·exact h5 r hr
  ·obtain⟨p,b,e1,e2,E⟩:=h.hr j C a r hr;exact⟨p,(h3 p (by rw[e1];exact d)).2 b,e1,e2,E⟩
theorem Hd.to {B:AR}{p:Pc}(h:Hd A p)(e1:B.tb=A.tb)(e2:B.runs=A.runs)(e3:∀j y,fM A j y->fM B j y)(e4:∀j y,gR B j y↔gR A j y):Hd B p:=by
 rcases h with⟨h1,h2,r,hr,h3⟩|⟨j,c,h1,h2,h3,h4,h5⟩
 ·exact .inl ⟨h1,h2,r,by rw[e2];exact hr,h3⟩
 ·exact .inr ⟨j,c,h1,by rw[e1];exact h2,h3,e3 _ _ h4,by rw[e4];exact h5⟩
theorem WI.hd (h:WI W)(hk:W.bX[k]?=some A){p:Pc}(hp:p∈W.held)(e:p.k=k):Hd A p:=by
 obtain⟨C,a,b⟩:=h.hf p hp;rw[e,hk]at a;cases a;exact b
theorem WI.lz (h:WI W)(hk:W.bX[k]?=some A){B:AR}{sp':Sp}(s:St A B W.sp sp')(e2:B.runs=A.runs)(e3:∀j y,fM B j y↔fM A j y)(e4:B.cM=A.cM):WI (W.put k B sp' W.held):=
 h.step hk s h.hk (λp b e=>(h.hd hk b e).to s.tb e2 (λj y=>(e3 j y).2) λj y=>by unfold gR;rw[e4]) (λ_ _=>Iff.rfl) (λj y a=>h.ht k A hk j y ((e3 j y).1 a)) λr hr=>h.hr k A hk r (by rw[←e2];exact hr)
theorem WI.cls (h:WI W){p:Pc}(hp:p∈W.held){j:Nat}(e:p.cls=j)(hk:W.bX[p.k]?=some A):∃c,A.tb[j]?=some c/\p.size=c.size/\fM A j (p.addr:Int)/\(p.eJ=true↔gR A j (p.addr:Int)):=by
 rcases h.hd hk hp rfl with⟨h1,_⟩|⟨i,c,h1,h2,h3,h4,h5⟩
 ·omega
 ·obtain rfl:i=j:=by omega
  exact⟨c,h2,h3,h4,h5⟩
theorem WI.run (h:WI W){p:Pc}(hp:p∈W.held)(e:p.cls = -1)(hk:W.bX[p.k]?=some A):p.eJ=false/\∃r∈A.runs,p.addr=r.1*256/\p.size=r.2*256:=by
 rcases h.hd hk hp rfl with⟨_,h2⟩|⟨i,c,h1,_⟩
 ·exact h2
 ·omega
theorem Kt {k:Nat}{cls x:Int}{p:Pc}:lI k cls x p=true↔p.k=k/\p.cls=cls/\(p.addr:Int)=x/\p.eJ=false:=by
 simp[lI]
theorem ZS {k:Nat}{cls:Int}{l:List Int}{p:Pc}:dV k cls l p=true↔p.k=k/\p.cls=cls/\(p.addr:Int)∈l:=by
 simp[dV]
theorem PY {held:List Pc}{k:Nat}{cls x:Int}{i:Nat}(h:uG held k cls x=some i):∃p,held[i]?=some p/\lI k cls x p=true:=by
 obtain⟨a,b,_⟩:=nk.1 h;exact⟨held[i],cV a,b⟩
theorem N7 {held:List Pc}{k:Nat}{cls x:Int}{p:Pc}(hp:p∈held)(h:lI k cls x p=true):(uG held k cls x).isSome=true:=by
 unfold uG;rw[List.findIdx?_isSome,kb];exact⟨p,hp,h⟩
theorem Ko {held:List Pc}{k:Nat}{cls:Int}{l:List Int}:jg held k cls l=true↔(∀x∈l,∃p∈held,lI k cls x p=true)/\l.Nodup:=by
 unfold jg;rw[zF,j8,zU];refine and_congr_left λ_=>forall_congr' λx=>imp_congr_right λa=>?_;unfold uG;rw[List.findIdx?_isSome,kb]
theorem F5 {held:List Pc}(hn:(held.map Pc.key).Nodup){i:Nat}{p:Pc}(hi:held[i]?=some p):held.take i++held.drop (i+1)=held.filter λq=>!(q.key==p.key):=by
 induction held generalizing i with
 | nil=>simp at hi
 | cons q l ih=>
  rw[zS,zr]at hn;cases i with
  | zero=>
   simp only[xA,Option.some.injEq]at hi;subst hi;have:l.filter (λr=>!(r.key==q.key))=l:=by
    rw[pf];intro r hr;have:r.key≠q.key:=λe=>hn.1 (zE.2 ⟨r,hr,e⟩);simpa using this
   simp[this]
  | succ i=>
   have hi:l[i]?=some p:=by simpa using hi
   have a:q.key≠p.key:=λe=>hn.1 (zE.2 ⟨p,zG hi,e.symm⟩);rw[uE,xY,kZ,ih hn.2 hi,tB];have:(!(q.key==p.key))=true:=by simpa using a
   rw[this];rfl
theorem VK {held:List Pc}(hn:(held.map Pc.key).Nodup)(f:Pc->Bool):((held.filter f).map Pc.key).Nodup:=hn.sublist (List.filter_sublist.map _)
theorem CA {k:Nat}{cls:Int}:∀(l:List Int) {held:List Pc},(held.map Pc.key).Nodup->(∀x∈l,∃p∈held,lI k cls x p=true)->l.Nodup->wo held k cls l=held.filter λp=>!dV k cls l p
 | [],held,_,_,_=>by
  have:∀p,dV k cls [] p=false:=λp=>by simp[dV]
  exact(pf.2 λp _=>by rw[this];rfl).symm
 | x::l,held,hn,ho,hl=>by
  obtain⟨p,C,B⟩:=ho x aA;obtain⟨i,m⟩:=pq.1 (N7 C B);obtain⟨q,A,j⟩:=PY m;have d:=zr.1 hl;have e1:lL k cls held x=held.filter λr=>!(r.key==q.key):=by unfold lL;rw[m];exact F5 hn A
  obtain⟨H,E,F,D⟩:=Kt.1 j;have w:=CA l (held:=held.filter λr=>!(r.key==q.key)) (VK hn _) (λy u=>by
   obtain⟨r,s,g⟩:=ho y (by simp[u]);refine⟨r,zI.2 ⟨s,?_⟩,g⟩;have:r.key≠q.key:=λe=>by
    have G:r.addr=q.addr:=congrArg (λz:Key=>z.2.2) e;have:=(Kt.1 g).2.2.1;have:y=x:=by omega
    subst this;exact d.1 u
   simpa using this) d.2
  unfold wo at w ⊢;rw[pS,e1,w,yO];apply vI;intro r s;have e:(r.key==q.key)=(r.k==k&&(r.cls==cls&&(r.addr:Int)==x)):=by
   rw[lQ];simp only[Pc.key,zT,zF,Prod.mk.injEq];constructor
   ·rintro⟨a,b,c⟩;exact⟨O,O,O⟩
   ·rintro⟨a,b,c⟩;exact⟨O,O,O⟩
  rw[e];unfold dV;rw[List.contains_cons];cases r.k==k<;>cases r.cls==cls<;>cases((r.addr:Int)==x)<;>cases l.contains (r.addr:Int)<;>rfl
theorem Qv {held:List Pc}{k:Nat}{cls:Int}{l:List Int}{m:Bool}{p:Pc}:p∈Hv held k cls l m↔∃q∈held,p=if dV k cls l q then{q with eJ:=m}else q:=by
 unfold Hv;rw[zE];constructor
 ·rintro⟨q,hq,rfl⟩;exact⟨q,hq,rfl⟩
 ·rintro⟨q,hq,rfl⟩;exact⟨q,hq,rfl⟩
theorem O8 {held:List Pc}{k:Nat}{cls:Int}{l:List Int}{m:Bool}:(Hv held k cls l m).map Pc.key=held.map Pc.key:=by
 unfold Hv;rw[k6];apply j5;intro p _;simp only[Function.comp];split<;>rfl
theorem Gm (hk:W.bX[k]?=some A)(h:WI W):WI (W.put k A W.sp W.held):=h.lz hk (St.refl (h.ga k A hk) (h.ow k A hk)) rfl (λ_ _=>Iff.rfl) rfl
theorem Sv (h:GA A){j:Nat}{c:bZ}{ss:List cG}(hc:Cl A j c ss){l:Nat}{s:cG}{i:Nat}(hs:ss[l]?=some s)(hi:i<c.n){x:Nat}(h1:at_ c s i<=x)(h2:x<at_ c s i+c.size):UD A (x:Int)=some ((j:Int),at_ c s i):=by
 have a:=h.cD j c ss hc;have b:=Hi a.pos hi h1 h2;have d:=h.used hc (zG hs) b.1 b.2;have m:=h.pg.lt (p:=x/256) (by rw[d.1];omega);have r:=h.pg.n2;have e:=hc.lt;have g:=h.tb;unfold UD;rw[zB O,dE];simp only;rw[zC (show x/256<1024 by omega),d.2,zB O,zB O,Nat.add_sub_cancel,hc.1,hc.2];simp only;rw[(CN a).2 ⟨l,s,i,hs,hi,rfl,O,O⟩];rfl
theorem Fh (h:GA A){r:Nat×Nat}(hr:r∈A.runs){x:Nat}(h1:r.1*256<=x)(h2:x<(r.1+r.2)*256):UD A (x:Int)=some (-1,r.1*256):=by
 have a:=h.ji hr (p:=x/256) O O;have b:=h.pg.lt (p:=x/256) (by rw[a.1];omega);have d:=h.pg.n2;unfold UD;rw[zB O,dE];simp only;rw[zC (show x/256<1024 by omega),a.2,zB O,zC rfl,yF h.nT hr O O];rfl
theorem RQ (h:GA A){x:Int}{k:Int}{a:Nat}(hf:UD A x=some (k,a)):(k = -1/\∃r∈A.runs,a=r.1*256/\((r.1*256:Nat):Int)<=x/\x<(((r.1+r.2)*256:Nat):Int)) ∨
 ∃(j:Nat) (c:bZ) (ss:List cG) (l:Nat) (s:cG) (i:Nat),k=j/\Cl A j c ss/\ss[l]?=some s/\i<c.n/\a=at_ c s i/\((at_ c s i:Nat):Int)<=x/\x<((at_ c s i+c.size:Nat):Int):=by
 unfold UD at hf;split at hf
 ·cases hf
 ·rename_i hx;obtain⟨y,rfl⟩:=za (show 0<=x by omega);rw[dE]at hf;simp only at hf;by_cases hlt:y/256<1024
  ·rw[zC hlt]at hf;split at hf
   ·cases hf
   ·split at hf
    ·rename_i h0 h41;obtain⟨r,e,b⟩:=nV.1 hf;have z:=tj e;have g:=sP e;simp at g;cases b;exact .inl ⟨rfl,r,z,rfl,O,O⟩
    ·rename_i h0 h41;split at hf
     ·rename_i c ss h1 h2;obtain⟨C,m,b⟩:=nV.1 hf;cases b;have d:Cl A (A.ow (y/256)-1) c ss:=⟨h1,h2⟩;obtain⟨l,s,i,u,p,rfl,w,B⟩:=(CN (h.cD _ _ _ d)).1 m;exact .inr ⟨_,c,ss,l,s,i,rfl,d,u,p,rfl,w,B⟩
     ·cases hf
  ·rw[zB hlt,zC rfl]at hf;cases hf
theorem fM.find (h:GA A){j:Nat}{x:Int}(hx:fM A j x):∃y:Nat,x=y/\UD A x=some ((j:Int),y):=by
 obtain⟨c,m,b,d⟩:=hx;have a:=h.cD j c m b;obtain⟨l,s,i,g,e,rfl,p⟩:=(Vs a).1 d;exact⟨_,rfl,Sv h b g e (zD _) (by have:=a.pos;omega)⟩
theorem G4 (h:GA A){x:Int}:uO A x=true↔(∃j,fM A j x)\/∃r∈A.runs,x=((r.1*256:Nat):Int):=by
 constructor
 ·intro hx;unfold uO at hx;split at hx
  ·rename_i k a e;split at hx
   ·rename_i he;rcases RQ h e with⟨rfl,r,hr,rfl,_⟩|⟨j,c,d,l,s,i,rfl,b,hs,hi,rfl,_⟩
    ·exact .inr ⟨r,hr,he.symm⟩
    ·rw[zB O,dE,b.1,b.2]at hx;exact .inl ⟨j,c,d,b,by simpa[Tk]using hx⟩
   ·cases hx
  ·cases hx
 ·rintro(⟨j,hj⟩|⟨r,hr,rfl⟩)
  ·obtain⟨y,rfl,e⟩:=hj.find h;obtain⟨c,d,b,g⟩:=hj;unfold uO;rw[e];simp only;rw[zC True.intro,zB O,dE,b.1,b.2];unfold Tk at g;show(dX c d (y:Int)==some true)=true;rw[g];rfl
  ·unfold uO;have:=h.gG r hr;rw[Fh h hr (zD _) O];simp
theorem WI.uP (h:WI W)(hk:W.bX[k]?=some A){cl:Int}{l:List Int}(ho:jg W.held k cl l=true){j:Nat}(e:cl=j):∀x∈l,¬gR A j x:=by
 intro x hx hin;obtain⟨p,g,a⟩:=(Ko.1 ho).1 x hx;obtain⟨r,i,m,b⟩:=Kt.1 a;obtain⟨c,_,_,_,d⟩:=h.cls g (j:=j) (by rw[i,e]) (by rw[r];exact hk);rw[m]at d;rw[d.2 hin]at b;cases b
theorem WI.grow (h:WI W)(hk:W.bX[k]?=some A)(x:Int):WI (W.put k (cL A W.sp x).1 (cL A W.sp x).2 W.held):=by
 obtain⟨s,e1,e2,a,_⟩:=F6 (h.ga k A hk) (h.ow k A hk) x;exact h.lz hk s e1 a e2
theorem WI.from (h:WI W)(hk:W.bX[k]?=some A)(cl m:Int):WI (W.put k (Ys A cl m) W.sp (W.held++(X9 A cl m).map λy=>⟨k,cl,y,oR W.tb cl,false⟩)):=by
 obtain⟨o,e1,e2,L,D,C⟩:=FG (h.ga k A hk) cl m;have tb:(Ys A cl m).tb=A.tb:=o.kp.tb;have i:∀y∈X9 A cl m,∃j:Nat,cl=j/\j<A.tb.length:=λy g=>L (λe=>by rw[e]at g;simp at g);have u:∀y∈X9 A cl m,∀p∈W.held,¬(p.k=k/\p.cls=cl/\p.addr=y):=by
  rintro y g p d ⟨H,G,K⟩;obtain⟨j,rfl,_⟩:=i y g;obtain⟨c,_,_,ht,_⟩:=h.cls d G (by rw[H];exact hk);rw[K]at ht;exact D y g (by rw[dE];exact ht)
 refine h.step hk (o.st (h.ow k A hk)) ?_ (λp d e=>?_) (λp z=>?_) (λj y g=>?_) λr hr=>?_
 ·rw[jY,nK];refine⟨h.hk,?_,λa F b M e=>?_⟩
  ·rw[k6];exact List.Pairwise.map (R:=(· ≠ ·)) _ (λa b B e=>B (by simpa[Pc.key]using e)) e2
  ·subst e;obtain⟨p,d,rfl⟩:=zE.1 F;obtain⟨q,J,e⟩:=zE.1 M;obtain⟨y,g,rfl⟩:=zE.1 J;simp only[Pc.key,Prod.mk.injEq]at e;exact u y g p d ⟨e.1.symm,e.2.1.symm,e.2.2.symm⟩
 ·rcases zK.1 d with d|d
  ·exact(h.hd hk d e).to tb o.runs (λj y w=>(C j y).2 (.inl w)) λj y=>by unfold gR;rw[e1]
  ·obtain⟨y,g,rfl⟩:=zE.1 d;obtain⟨j,rfl,w⟩:=i y g;refine .inr ⟨j,A.tb[j],rfl,by rw[tb];exact cV w,?_,(C j y).2 (.inr ⟨(dE j).symm,y,g,rfl⟩),?_⟩
   ·show oR W.tb (j:Int)=_;unfold oR;rw[dE,←h.tb k A hk,cV w];rfl
   ·constructor
    ·intro hx;cases hx
    ·rintro⟨t,ht,hx⟩;rw[e1]at ht;obtain⟨c,N,P,E,s⟩:=(h.ga k A hk).cl w;rw[ht]at s;cases s;exact(D y g (by rw[dE];exact(KV E).2 ((h.ga k A hk).lR j c N t E ht _ hx))).elim
 ·rw[zK];constructor
  ·rintro(d|d)
   ·exact d
   ·obtain⟨y,_,rfl⟩:=zE.1 d;exact(z rfl).elim
  ·exact .inl
 ·rcases(C j y).1 g with g|⟨rfl,x,hx,rfl⟩
  ·obtain⟨p,d,q⟩:=h.ht k A hk j y g;exact⟨p,kv _ d,q⟩
  ·obtain⟨j,rfl,_⟩:=i x hx;exact⟨_,nF _ (zE.2 ⟨x,hx,rfl⟩),rfl,by simp,rfl⟩
 ·rw[o.runs]at hr;obtain⟨p,d,q⟩:=h.hr k A hk r hr;exact⟨p,kv _ d,q⟩
theorem WI.xz (h:WI W){cl:Int}{l:List Int}(ho:jg W.held k cl l=true):wo W.held k cl l=W.held.filter λp=>!dV k cl l p:=
 CA l h.hk (Ko.1 ho).1 (Ko.1 ho).2
theorem WI.Ot (h:WI W)(hk:W.bX[k]?=some A){cl:Int}{l:List Int}(ho:jg W.held k cl l=true):WI (W.put k (Zr A cl l) W.sp (if QH A cl l=0 then wo W.held k cl l else W.held)):=by
 have ga:=h.ga k A hk;obtain⟨o,e1,e2,H⟩:=Ab ga (k:=cl) (xs:=l) λm x g=>by
  obtain⟨j,c,K,rfl,_⟩:=Ap ga m;rw[dE];exact h.uP hk ho rfl x g
 by_cases m:QH A cl l=0
 ·rw[zC m,h.xz ho];obtain⟨j,c,K,rfl,N,M⟩:=Ap ga m;have e2:=e2 m;rw[dE]at e2;refine h.step hk (o.st (h.ow k A hk)) (VK h.hk _) (λp u e=>?_) (λp z=>?_) (λi y J=>?_) λr hr=>?_
  ·have s:=zI.1 u;have F:dV k (j:Int) l p=false:=by simpa using s.2
   rcases h.hd hk s.1 e with⟨h1,h2,r,hr,h3⟩|⟨i,d,h1,h2,h3,h4,h5⟩
   ·exact .inl ⟨h1,h2,r,by rw[o.runs];exact hr,h3⟩
   ·refine .inr ⟨i,d,h1,by rw[o.kp.tb];exact h2,h3,(e2 i _).2 ⟨h4,λ⟨a,b⟩=>?_⟩,by unfold gR at h5 ⊢;rw[e1];exact h5⟩;have:dV k (j:Int) l p=true:=ZS.2 ⟨e,by rw[h1,a],b⟩;rw[F]at this;cases this
  ·rw[zI];have:dV k (j:Int) l p=false:=by
    apply nh.2;intro g;exact z (ZS.1 g).1
   rw[this];simp
  ·obtain⟨E,B⟩:=(e2 i y).1 J;obtain⟨p,u,D,C,w⟩:=h.ht k A hk i y E;refine⟨p,zI.2 ⟨u,?_⟩,D,C,w⟩;have:dV k (j:Int) l p=false:=by
    apply nh.2;intro g;obtain⟨_,L,G⟩:=ZS.1 g;exact B ⟨O,by rw[←w];exact G⟩
   rw[this];rfl
  ·rw[o.runs]at hr;obtain⟨p,u,D,C,w⟩:=h.hr k A hk r hr;refine⟨p,zI.2 ⟨u,?_⟩,D,C,w⟩;have:dV k (j:Int) l p=false:=by
    apply nh.2;intro g;have:=(ZS.1 g).2.1;omega
   rw[this];rfl
 ·rw[zB m,H m];exact Gm hk h
theorem WI.move (h:WI W)(hk:W.bX[k]?=some A){B:AR}{j:Nat}{l:List Int}{m:Bool}(o:Ob A B)(e1:∀i y,fM B i y↔fM A i y)(e2:∀i y,gR B i y↔if i=j/\y∈l then m=true else gR A i y):WI (W.put k B W.sp (Hv W.held k (j:Int) l m)):=by
 refine h.step hk (o.st (h.ow k A hk)) (by rw[O8];exact h.hk) (λp b e=>?_) (λp a=>?_) (λi y g=>?_) λr hr=>?_
 ·obtain⟨q,s,rfl⟩:=Qv.1 b;have d:q.k=k:=by
   split at e<;>exact e
  rcases h.hd hk s d with⟨h1,h2,r,hr,h3⟩|⟨i,c,h1,h2,h3,h4,h5⟩
  ·have:dV k (j:Int) l q=false:=by
    apply nh.2;intro hx;have:=(ZS.1 hx).2.1;omega
   rw[this];exact .inl ⟨h1,h2,r,by rw[o.runs];exact hr,h3⟩
  ·by_cases hx:dV k (j:Int) l q=true
   ·rw[zC hx];obtain⟨_,D,C⟩:=ZS.1 hx;have z:i=j:=by omega
    refine .inr ⟨i,c,h1,by rw[o.kp.tb];exact h2,h3,(e1 _ _).2 h4,?_⟩;show m=true↔gR B i (q.addr:Int);rw[e2,zC ⟨z,C⟩]
   ·rw[zB hx];refine .inr ⟨i,c,h1,by rw[o.kp.tb];exact h2,h3,(e1 _ _).2 h4,?_⟩;rw[e2,zB λg=>hx (ZS.2 ⟨d,by rw[h1,g.1],g.2⟩)];exact h5
 ·rw[Qv];constructor
  ·rintro⟨q,s,rfl⟩;have:dV k (j:Int) l q=false:=by
    apply nh.2;intro hx;rw[zC hx]at a;exact a (ZS.1 hx).1
   rw[this];exact s
  ·intro b;refine⟨p,b,?_⟩;have:dV k (j:Int) l p=false:=by
    apply nh.2;intro hx;exact a (ZS.1 hx).1
   rw[this];rfl
 ·obtain⟨p,b,x,w,u⟩:=h.ht k A hk i y ((e1 i y).1 g);refine⟨_,Qv.2 ⟨p,b,rfl⟩,?_,?_,?_⟩
  ·split<;>exact x
  ·split<;>exact w
  ·split<;>exact u
 ·rw[o.runs]at hr;obtain⟨p,b,x,w,u⟩:=h.hr k A hk r hr;refine⟨_,Qv.2 ⟨p,b,rfl⟩,?_,?_,?_⟩
  ·split<;>exact x
  ·split<;>exact w
  ·split<;>exact u
theorem OE {held:List Pc}{k:Nat}{cls:Int}{m:Bool}:Hv held k cls [] m=held:=by
 unfold Hv;have:∀p,dV k cls [] p=false:=λp=>by simp[dV]
 simp[this]
theorem WI.vn (h:WI W)(hk:W.bX[k]?=some A)(cl:Int):WI (W.put k (Zu A cl) W.sp (Hv W.held k cl (Yn A cl) false)):=by
 obtain⟨o,e1,e2,s,b,a⟩:=C0 (h.ga k A hk) cl;by_cases hv:Yn A cl=[]
 ·rw[hv,OE];have d:∀j y,gR (Zu A cl) j y↔gR A j y:=λj y=>by rw[a,hv];simp
  refine h.step hk (o.st (h.ow k A hk)) h.hk (λp m e=>(h.hd hk m e).to o.kp.tb o.runs (λj y=>(e1 j y).2) d) (λ_ _=>Iff.rfl) (λj y g=>h.ht k A hk j y ((e1 j y).1 g)) λr hr=>h.hr k A hk r (by rw[←o.runs];exact hr)
 ·obtain⟨j,rfl,_⟩:=b hv;rw[dE]at a;exact h.move hk o e1 λi y=>by
   rw[a];split
   ·rename_i hx;simp[hx]
   ·rename_i hx;simp[hx]
theorem WI.Og (h:WI W)(hk:W.bX[k]?=some A){cl:Int}{l:List Int}(ho:jg W.held k cl l=true):WI (W.put k (QT A cl l) W.sp (if KW A cl l then Hv W.held k cl l true else W.held)):=by
 by_cases a:KW A cl l=true
 ·have b:∃j:Nat,cl=j:=by
   have d:UU A cl l=0:=by
    unfold KW at a;simp only[zF,zU]at a;exact a.1
   have b:A.ck cl=true:=by
    unfold UU at d;split at d
    ·assumption
    ·cases d
   obtain⟨j,g,_⟩:=UY.1 b;exact⟨j,g⟩
  obtain⟨j,rfl⟩:=b;obtain⟨o,e1,e2,_⟩:=JJ (h.ga k A hk) (j:Int) (xs:=l) (Ko.1 ho).2 (by rw[dE];exact h.uP hk ho rfl);obtain⟨_,_,e2⟩:=e2 a;rw[dE]at e2;rw[a,zC rfl];exact h.move hk o e1 λi y=>by
   rw[e2];split
   ·rename_i hx;simp[hx]
   ·rename_i hx;simp[hx]
 ·have a:KW A cl l=false:=by simpa using a
  have e:QT A cl l=A:=by unfold QT;rw[a];rfl
  rw[a,e];exact Gm hk h
theorem WI.uU (h:WI W)(hk:W.bX[k]?=some A)(m a:Int):WI (W.put k (cA A W.sp m a).1 (cA A W.sp m a).2 (if Qh A W.sp m a=0 then W.held++[⟨k, -1,ZT A W.sp m a*256,m.toNat*256,false⟩]else W.held)):=by
 rcases PE (h.ga k A hk) (h.ow k A hk) m a with⟨e,hE,_⟩|⟨x,A1,sp1,g,hE,hV,e,htk,hor,s,et,ek⟩
 ·rw[zB hE,e];exact Gm hk h
 ·rw[zC hE,hV];have w:(cA A W.sp m a).1.runs=A.runs++[(x,m.toNat)]:=by rw[e]
  have z:∀r∈A.runs,r.1≠x:=by
   have hd:=s.ga.kf;rw[w]at hd;intro r hr e2;have u:=(pA.1 hd).2.2 r hr (x,m.toNat) aA;have B:=(h.ga k A hk).gG r hr;have i:=s.ga.gG (x,m.toNat) (by rw[w];simp);simp only at u i;omega
  refine h.step hk s ?_ (λp g e=>?_) (λp C=>?_) (λj y D=>?_) λr hr=>?_
  ·rw[jY,nK];refine⟨h.hk,by simp,λb E d hd e2=>?_⟩;subst e2;obtain⟨p,g,rfl⟩:=zE.1 E;simp only[zS,qs,zN,Pc.key,Prod.mk.injEq]at hd;obtain⟨_,r,hr,i,_⟩:=h.run g hd.2.1 (A:=A) (by rw[hd.1];exact hk);exact z r hr O
  ·rcases zK.1 g with g|g
   ·rcases h.hd hk g e with⟨u,B,r,hr,i⟩|⟨j,c,u,B,i,h4,h5⟩
    ·exact .inl ⟨u,B,r,by rw[w];exact kv _ hr,i⟩
    ·exact .inr ⟨j,c,u,by rw[s.tb];exact B,i,(ek _ _).2 h4,by unfold gR at h5 ⊢;rw[et];exact h5⟩
   ·simp only[zN]at g;subst g;exact .inl ⟨rfl,rfl,(x,m.toNat),by rw[w];simp,rfl,rfl⟩
  ·rw[zK];constructor
   ·rintro(g|g)
    ·exact g
    ·simp only[zN]at g;subst g;exact(C rfl).elim
   ·exact .inl
  ·obtain⟨p,g,q⟩:=h.ht k A hk j y ((ek j y).1 D);exact⟨p,kv _ g,q⟩
  ·rw[w]at hr;rcases zK.1 hr with hr|hr
   ·obtain⟨p,g,q⟩:=h.hr k A hk r hr;exact⟨p,kv _ g,q⟩
   ·simp only[zN]at hr;subst hr;exact⟨_,nF _ (zN.2 rfl),rfl,rfl,rfl⟩
theorem WI.mL (h:WI W)(hk:W.bX[k]?=some A){r:Nat×Nat}(hr:r∈A.runs):jg W.held k (-1) [(r.1:Int)*256]=true:=by
 refine Ko.2 ⟨λx a=>?_,by simp⟩;simp only[zN]at a;subst a;obtain⟨p,b,e,d,g⟩:=h.hr k A hk r hr;exact⟨p,b,Kt.2 ⟨e,d,O,(h.run b d (by rw[e];exact hk)).1⟩⟩
theorem WI.vD (h:WI W)(hk:W.bX[k]?=some A)(x:Int):WI (W.put k (Qp A x) W.sp (if KG A x=0 then wo W.held k (-1) [x*256]else W.held)):=by
 have ga:=h.ga k A hk;obtain⟨⟨kp,g⟩,K,G,e1,e2⟩:=N4 ga x;by_cases h0:KG A x=0
 ·rw[zC h0];obtain⟨r,hr,rfl,H⟩:=e2 h0;rw[h.xz (h.mL hk hr)];have m:∀p:Pc,dV k (-1) [(r.1:Int)*256] p=true↔p.k=k/\p.cls = -1/\p.addr=r.1*256:=λp=>by
   rw[ZS];simp only[zN];constructor
   ·rintro⟨a,b,c⟩;exact⟨a,b,O⟩
   ·rintro⟨a,b,c⟩;exact⟨a,b,O⟩
  refine h.step hk (St.kp g (h.ow k A hk) kp) (VK h.hk _) (λp u e=>?_) (λp B=>?_) (λi y L=>?_) λq d=>?_
  ·have s:=zI.1 u;have w:¬dV k (-1) [(r.1:Int)*256] p=true:=by simpa using s.2
   rw[m]at w;rcases h.hd hk s.1 e with⟨h1,h2,q,d,z⟩|⟨j,c,h1,h2,z,J,F⟩
   ·refine .inl ⟨h1,h2,q,?_,z⟩;rw[H,zI];refine⟨d,?_⟩;have:q≠r:=by rintro rfl;exact w ⟨e,h1,z.1⟩
    simpa using this
   ·exact .inr ⟨j,c,h1,by rw[kp.tb];exact h2,z,(G _ _).2 J,by unfold gR at F ⊢;rw[K];exact F⟩
  ·rw[zI];have:dV k (-1) [(r.1:Int)*256] p=false:=by
    apply nh.2;intro hx;exact B (ZS.1 hx).1
   rw[this];simp
  ·obtain⟨p,u,E,D,C⟩:=h.ht k A hk i y ((G i y).1 L);refine⟨p,zI.2 ⟨u,?_⟩,E,D,C⟩;have:dV k (-1) [(r.1:Int)*256] p=false:=by
    apply nh.2;intro hx;have:=((m p).1 hx).2.1;omega
   rw[this];rfl
  ·rw[H,zI]at d;obtain⟨p,u,E,D,C⟩:=h.hr k A hk q d.1;refine⟨p,zI.2 ⟨u,?_⟩,E,D,C⟩;have:dV k (-1) [(r.1:Int)*256] p=false:=by
    apply nh.2;intro hx;have z:=((m p).1 hx).2.2;have J:=ga.gG q d.1;have F:=ga.gG r hr;have:q=r:=ga.gJ d.1 hr (x:=q.1) O O O O;subst this;simp at d
   rw[this];rfl
 ·rw[zB h0,e1 h0];exact Gm hk h
theorem WI.tick (h:WI W)(hk:W.bX[k]?=some A):WI (W.put k (qN A) W.sp (xE (W.bX.set k (qN A)) W.held)):=by
 have ga:=h.ga k A hk;have t:=N1 ga;have u:=(cW.1 hk).1;have d:(W.bX.set k (qN A))[k]?=some (qN A):=zL u;have bS:∀p∈W.held,p∈xE (W.bX.set k (qN A)) W.held↔(p.k=k->∀j:Nat,p.cls=j->fM (qN A) j (p.addr:Int)):=by
  intro p a;unfold xE;rw[zI];simp only[a,sS,nj,l6];by_cases hpk:p.k=k
  ·rw[hpk,d];simp only[true_implies];rcases h.hd hk a hpk with⟨h1,h2,r,hr,h3⟩|⟨j,c,h1,h2,h3,h4,h5⟩
   ·exact⟨λ_ j D=>O,λ_=>.inl h2⟩
   ·constructor
    ·intro hx i E;obtain rfl:i=j:=by omega
     rcases hx with hx|hx
     ·refine(t.tk i _).2 ⟨h4,λs=>?_⟩;rw[h5.2 s]at hx;cases hx
     ·rcases(G4 t.ob.ga).1 hx with⟨j',hj'⟩|⟨r,hr,e⟩
      ·obtain⟨y,e,hf⟩:=((t.tk j' _).1 hj').1.find ga;obtain⟨H,K,b⟩:=h4.find ga;rw[hf]at b;have:j'=i:=by
        have:=congrArg Prod.fst (Option.some.inj b);simp only at this;omega
       rw[←this];exact hj'
      ·rw[t.ob.runs]at hr;have:=ga.gG r hr;have L:=Fh ga hr (x:=r.1*256) (zD _) O;obtain⟨H,K,b⟩:=h4.find ga;rw[e,L]at b;have:=congrArg Prod.fst (Option.some.inj b);simp only at this;omega
    ·intro hx;by_cases hm:p.eJ=true
     ·exact .inr ((G4 t.ob.ga).2 (.inl ⟨j,hx j h1⟩))
     ·exact .inl (by simpa using hm)
  ·constructor
   ·intro _ hx;exact(hpk hx).elim
   ·intro _;obtain⟨C,F,J⟩:=h.hf p a;rw[zk (Ne.symm hpk),F];rcases J with⟨h1,h2,_⟩|⟨j,c,_,_,_,h4,_⟩
    ·exact .inl h2
    ·exact .inr ((G4 (h.ga _ C F)).2 (.inl ⟨j,h4⟩))
 have sub:∀p,p∈xE (W.bX.set k (qN A)) W.held->p∈W.held:=λp a=>(zI.1 a).1;refine h.step hk (t.ob.st (h.ow k A hk)) (VK h.hk _) (λp a e=>?_) (λp m=>⟨sub p,λa=>(bS p a).2 λe=>(m e).elim⟩) (λj y G=>?_) λr hr=>?_
 ·have z:=(bS p (sub p a)).1 a e;rcases h.hd hk (sub p a) e with⟨h1,h2,r,hr,h3⟩|⟨j,c,h1,h2,h3,h4,h5⟩
  ·exact .inl ⟨h1,h2,r,by rw[t.ob.runs];exact hr,h3⟩
  ·have D:=z j h1;refine .inr ⟨j,c,h1,by rw[t.ob.kp.tb];exact h2,h3,D,?_⟩;rw[h5];exact⟨((t.tk j _).1 D).2,t.sub j _⟩
 ·obtain⟨p,a,B,w,g⟩:=h.ht k A hk j y ((t.tk j y).1 G).1;refine⟨p,(bS p a).2 λ_ i E=>?_,B,w,g⟩;obtain rfl:i=j:=by omega
  rw[g];exact G
 ·rw[t.ob.runs]at hr;obtain⟨p,a,B,w,g⟩:=h.hr k A hk r hr;exact⟨p,(bS p a).2 λ_ i E=>O,B,w,g⟩
theorem WI.qg (h:WI W){p:Pc}(hp:p∈W.held)(hk:W.bX[p.k]?=some A){x:Nat}(h1:p.addr<=x)(h2:x<p.addr+p.size):A.f (x/256)=1:=by
 have ga:=h.ga _ A hk;rcases h.hd hk hp rfl with⟨_,_,r,hr,e1,e2⟩|⟨j,c,_,hc,e1,ht,_⟩
 ·exact(ga.ji hr O O).1
 ·obtain⟨b,w,a,d⟩:=ht;have:b=c:=Option.some.inj (a.1.symm.trans hc);subst this;have g:=ga.cD j b w a;obtain⟨l,s,i,u,m,e,_⟩:=(Vs g).1 d;have y:p.addr=at_ b s i:=Int.ofNat.inj e;have:=Hi g.pos m (s:=s) (x:=x) O O;exact(ga.used a (zG u) this.1 this.2).1
theorem fM.lt (h:GA A){j:Nat}{x:Int}(hx:fM A j x):∃y:Nat,x=y/\y<262144:=by
 obtain⟨c,r,d,e⟩:=hx;have a:=h.cD j c r d;obtain⟨l,s,i,m,g,rfl,u⟩:=(Vs a).1 e;have b:=Hi a.pos (s:=s) (x:=at_ c s i) g (zD _) (by have:=a.pos;omega);have w:=(h.used d (zG m) b.1 b.2).1;have:=h.pg.lt (p:=at_ c s i/256) O;have:=h.pg.n2;exact⟨_,rfl,O⟩
theorem WI.jE (h:WI W){p:Pc}(hp:p∈W.held):p.addr<262144/\p.addr+p.size<=270000:=by
 obtain⟨A,i,d⟩:=h.hf p hp;have ga:=h.ga _ A i;have u:=ga.pg.n2;rcases d with⟨_,_,r,hr,h1,h2⟩|⟨j,c,_,hc,h2,h3,_⟩
 ·have w:=ga.fit hr;have x:=ga.gG r hr;omega
 ·obtain⟨y,e,s⟩:=h3.lt ga;obtain⟨g,m,a,_⟩:=h3;have:g=c:=Option.some.inj (a.1.symm.trans hc);subst this;have b:=(ga.cD j _ m a).ok;unfold bZ.ok at b;omega
theorem EL:∀(N:Nat) (l:List Nat),l.Nodup->(∀x∈l,x<N)->l.length<=N
 | 0,l,_,h=>by
  cases l with
  | nil=>simp
  | cons x l=>have:=h x aA;omega
 | N+1,l,hn,h=>by
  have g:=EL N (l.filter (· != N)) (hn.sublist rW) λx b=>by
   have b:=zI.1 b;have:=h x b.1;have:x≠N:=by simpa using b.2
   omega
  have d:=List.length_eq_countP_add_countP (l:=l) (p:=(· != N));have i:l.countP (λa=>¬(a != N)=true)<=1:=by
   have e:l.countP (λa=>¬(a != N)=true)=l.count N:=by
    unfold List.count;apply List.countP_congr;intro x _;simp
   rw[e];exact Ba.1 hn N
  rw[ym]at d;omega
theorem WI.apart (h:WI W){p q:Pc}(hp:p∈W.held)(hq:q∈W.held){x:Nat}(p1:p.addr<=x)(p2:x<p.addr+p.size)(q1:q.addr<=x)(q2:x<q.addr+q.size):p=q:=by
 obtain⟨A,m,H⟩:=h.hf p hp;obtain⟨B,y,C⟩:=h.hf q hq;have e1:=h.qg hp m p1 p2;have e2:=h.qg hq y q1 q2;have z:p.k=q.k:=h.one (x/256) p.k q.k A B m y O O;rw[←z,m]at y;cases y;have ga:=h.ga _ A m;have J:=ga.tb;have own:∀{r:Pc},Hd A r->r.addr<=x->x<r.addr+r.size->(r.cls = -1/\A.ow (x/256)=41/\∃u∈A.runs,r.addr=u.1*256/\u.1<=x/256/\x/256<u.1+u.2) ∨
  ∃(j:Nat) (c:bZ) (b:List cG) (l:Nat) (s:cG) (i:Nat),r.cls=j/\A.ow (x/256)=j+1/\Cl A j c b/\b[l]?=some s/\i<c.n/\r.addr=at_ c s i/\r.size=c.size:=by
  intro r hr r1 r2;rcases hr with⟨c1,_,u,hu,c2,c3⟩|⟨j,c,c1,c2,c3,c4,_⟩
  ·exact .inl ⟨c1,(ga.ji hu O O).2,u,hu,c2,O,O⟩
  ·obtain⟨d,b,a,K⟩:=c4;have:d=c:=Option.some.inj (a.1.symm.trans c2);subst this;have F:=ga.cD j d b a;obtain⟨l,s,i,E,D,e,_⟩:=(Vs F).1 K;have L:r.addr=at_ d s i:=Int.ofNat.inj e;have g:=Hi F.pos (s:=s) (x:=x) D O O;exact .inr ⟨j,d,b,l,s,i,c1,(ga.used a (zG E) g.1 g.2).2,a,E,D,L,c3⟩
 refine h.unique hp hq ?_;rcases own H p1 p2 with⟨a1,a2,u,hu,a3,a4,a5⟩|⟨j,c,b,l,s,i,a1,a2,a3,a4,a5,a6,a7⟩
 ·rcases own C q1 q2 with⟨b1,b2,w,hw,b3,b4,b5⟩|⟨j',d,ss',l',s',i',b1,b2,b3,b4,b5,b6,b7⟩
  ·have:=ga.gJ hu hw a4 a5 b4 b5;subst this;unfold Pc.key;rw[z,a1,b1,a3,b3]
  ·have:=b3.lt;omega
 ·rcases own C q1 q2 with⟨b1,b2,w,hw,b3,b4,b5⟩|⟨j',d,ss',l',s',i',b1,b2,b3,b4,b5,b6,b7⟩
  ·have:=a3.lt;omega
  ·have G:j=j':=by omega
   subst G;obtain⟨rfl,rfl⟩:=a3.eq b3;have:=V8 (ga.cD j c b a3) a4 b4 a5 b5 (x:=x) O O O O;unfold Pc.key;rw[z,a1,b1,a6,b6,this.2.1,this.2.2]
theorem WI.size_pos (h:WI W){p:Pc}(hp:p∈W.held):8<=p.size/\p.size%8=0:=by
 obtain⟨A,g,d⟩:=h.hf p hp;have ga:=h.ga _ A g;rcases d with⟨_,_,r,hr,h1,h2⟩|⟨j,c,_,hc,h2,h3,_⟩
 ·have m:=ga.gG r hr;omega
 ·obtain⟨e,i,a,_⟩:=h3;have:e=c:=Option.some.inj (a.1.symm.trans hc);subst this;have b:=(ga.cD j _ i a).ok;unfold bZ.ok at b;omega
theorem WI.len (h:WI W):W.held.length<=262144:=by
 have w:(W.held.map (·.addr)).Nodup:=by
  have g:=mg.1 h.hk;refine mg.2 λi j m r d e=>?_;have b:i<W.held.length:=by simpa using m
  have a:j<W.held.length:=by simpa using r
  refine g i j (by simpa using b) (by simpa using a) d ?_;simp only[sI]at e ⊢;have s1:=(h.size_pos (j4 b)).1;have s2:=(h.size_pos (j4 a)).1;rw[h.apart (j4 b) (j4 a) (x:=W.held[i].addr) (zD _) O O O]
 have:=EL 262144 _ w λx s=>by
  obtain⟨p,u,rfl⟩:=zE.1 s;exact(h.jE u).1
 simpa using this
end Go.Ar
namespace Go.Ar
open Go.Vc (bV dB cT)
def lV (live:List (Int×Bk))(k x:Int):Nat:=live.countP λe=>e.2.2.2.1==k&&e.1==x
def lg (ls:List Li)(k x:Int):Nat:=if 0<=k then(ls.getD k.toNat ib).os.count x else 0
def lh (bs:List Bt)(k x:Int):Nat:=(bs.map λb=>if(b.1:Int)=k then b.2.count x else 0).sum
def jy (p:Option Ph)(k x:Int):Nat:=match p with
 | some (.dC s _)=>if k = -1/\x=s*256 then 1 else 0
 | _=>0
def gF (g:Th)(k x:Int):Nat:=lg g.ls k x+lh g.bP k x+jy g.ph k x
def pL (H:Hw)(k x:Int):Nat:=lV H.live k x+(H.bQ.map λg=>gF g k x).sum
def Um (held:List Pc)(k x:Int):Prop:=∃p∈held,p.eJ=false/\p.cls=k/\(p.addr:Int)=x
open Classical in
noncomputable def kW (held:List Pc)(k x:Int):Nat:=if Um held k x then 1 else 0
theorem DY (held:List Pc)(k x:Int):kW held k x<=1:=by unfold kW;split<;>omega
theorem Bz {held:List Pc}{k x:Int}(h:1<=kW held k x):Um held k x:=by
 unfold kW at h;split at h
 ·assumption
 ·omega
theorem Vo {held:List Pc}{k x:Int}(h:Um held k x):kW held k x=1:=by unfold kW;rw[zC h]
theorem Q8 {held:List Pc}{k x:Int}(h:¬Um held k x):kW held k x=0:=by unfold kW;rw[zB h]
theorem DE {l:List Int}(hn:l.Nodup)(x:Int):l.count x=if x∈l then 1 else 0:=by
 split
 ·rename_i h;have b:=Ba.1 hn x;have a:=Al.2 h;omega
 ·rename_i h;exact xw.2 h
theorem yU {held held':List Pc}{cl:Int}{l:List Int}(hn:l.Nodup)(h0:∀x∈l,¬Um held cl x)(h:∀k x,Um held' k x↔Um held k x\/(k=cl/\x∈l))(k x:Int):kW held' k x=kW held k x+(if cl=k then l.count x else 0):=by
 by_cases hk:cl=k
 ·subst hk;rw[zC rfl,DE hn];by_cases hx:x∈l
  ·rw[zC hx,Q8 (h0 x hx),Vo ((h _ _).2 (.inr ⟨rfl,hx⟩))]
  ·rw[zB hx,j0];by_cases hu:Um held cl x
   ·rw[Vo hu,Vo ((h _ _).2 (.inl hu))]
   ·rw[Q8 hu,Q8 λa=>by rcases(h _ _).1 a with a|⟨_,a⟩;exact hu a;exact hx a]
 ·rw[zB hk,j0];by_cases hu:Um held k x
  ·rw[Vo hu,Vo ((h _ _).2 (.inl hu))]
  ·rw[Q8 hu,Q8 λa=>by rcases(h _ _).1 a with a|⟨a,_⟩;exact hu a;exact hk a.symm]
theorem B8 {held held':List Pc}{cl:Int}{l:List Int}(hn:l.Nodup)(h0:∀x∈l,Um held cl x)(h:∀k x,Um held' k x↔Um held k x/\¬(k=cl/\x∈l))(k x:Int):kW held k x=kW held' k x+(if cl=k then l.count x else 0):=by
 by_cases hk:cl=k
 ·subst hk;rw[zC rfl,DE hn];by_cases hx:x∈l
  ·rw[zC hx,Vo (h0 x hx),Q8 λa=>((h _ _).1 a).2 ⟨rfl,hx⟩]
  ·rw[zB hx,j0];by_cases hu:Um held cl x
   ·rw[Vo hu,Vo ((h _ _).2 ⟨hu,λa=>hx a.2⟩)]
   ·rw[Q8 hu,Q8 λa=>hu ((h _ _).1 a).1]
 ·rw[zB hk,j0];by_cases hu:Um held k x
  ·rw[Vo hu,Vo ((h _ _).2 ⟨hu,λa=>hk a.1.symm⟩)]
  ·rw[Q8 hu,Q8 λa=>hu ((h _ _).1 a).1]
theorem Ca {α:Type}(f:α->Nat):∀{l:List α} {t:Nat} {g:α} (g':α),l[t]?=some g->((l.set t g').map f).sum+f g=(l.map f).sum+f g'
 | [],t,g,g',h=>by simp at h
 | a::l,0,g,g',h=>by
  simp only[xA,Option.some.injEq]at h;subst h;simp only[List.set_cons_zero,zS,nG];omega
 | a::l,t+1,g,g',h=>by
  have:=Ca f (l:=l) (t:=t) g' (by simpa using h);simp only[rF,zS,nG];omega
theorem Ae {α:Type}(f:α->Nat){l:List α}{g:α}(h:g∈l):f g<=(l.map f).sum:=by
 induction l with
 | nil=>simp at h
 | cons a l ih=>
  simp only[zS,nG];rcases zW.1 h with rfl|h
  ·omega
  ·have:=ih h;omega
theorem vZ (ls:List Li)(k:Nat)(x:Int):lg ls (k:Int) x=(ls.getD k ib).os.count x:=by
 unfold lg;rw[zC O,dE]
theorem DO {ls:List Li}{j:Nat}(l:Li)(k:Nat)(h:j<ls.length):(ls.set j l).getD k ib=if k=j then l else ls.getD k ib:=by
 rw[zP,mJ];by_cases hkj:k=j
 ·subst hkj;simp[h]
 ·rw[zB hkj,zB (Ne.symm hkj),zP]
theorem Ls {ls:List Li}{j:Nat}(l:Li)(h:j<ls.length)(k x:Int):lg (ls.set j l) k x+(if(j:Int)=k then(ls.getD j ib).os.count x else 0)=lg ls k x+(if(j:Int)=k then l.os.count x else 0):=by
 by_cases hk:0<=k
 ·obtain⟨k,rfl⟩:=za hk;rw[vZ,vZ,DO l k h];by_cases hjk:j=k
  ·subst hjk;simp;omega
  ·have:¬(j:Int)=(k:Int):=by omega
   rw[zB (Ne.symm hjk),zB this,zB this]
 ·unfold lg;rw[zB hk,zB hk,zB O,zB O]
theorem Vm (k x:Int):lh [] k x=0:=rfl
theorem Kw (b:Bt)(bs:List Bt)(k x:Int):lh (b::bs) k x=(if(b.1:Int)=k then b.2.count x else 0)+lh bs k x:=by
 unfold lh;rw[zS,nG]
theorem Db (a b:List Bt)(k x:Int):lh (a++b) k x=lh a k x+lh b k x:=by
 unfold lh;rw[jY,List.sum_append]
theorem Dd {f:bZ->Li->List Int×Li}(hf:∀c l x,(f c l).1.count x+(f c l).2.os.count x=l.os.count x){tb:List bZ}{ls:List Li}(hl:ls.length=tb.length)(k x:Int):lh (QW f tb ls) k x+lg (QR f tb ls) k x=lg ls k x:=by
 have key:∀n,n<=tb.length->lh ((List.range n).filterMap λk=>match tb[k]?,ls[k]? with
  | some c,some l=>if(f c l).1=[]then none else some (k,(f c l).1)
  | _,_=>none) k x=if 0<=k/\k<(n:Int)then(match tb[k.toNat]?,ls[k.toNat]? with
  | some c,some l=>(f c l).1.count x
  | _,_=>0)else 0:=by
  intro n
  induction n with
  | zero=>intro _;rw[zB O];rfl
  | succ n i=>
   intro hn;have i:=i O;rw[pT,vA,Db,i];have d:tb[n]?=some tb[n]:=cV O;have a:ls[n]?=some ls[n]:=cV O;have e:lh ([n].filterMap λk=>match tb[k]?,ls[k]? with
    | some c,some l=>if(f c l).1=[]then none else some (k,(f c l).1)
    | _,_=>none) k x=if(n:Int)=k then(f tb[n] ls[n]).1.count x else 0:=by
    rw[AG,d,a];simp only;by_cases he:(f tb[n] ls[n]).1=[]
    ·rw[zC he,he];simp[Vm]
    ·rw[zB he];simp only[List.filterMap_nil,Kw,Vm,j0]
   rw[e];by_cases b:0<=k/\k<(n:Int)
   ·rw[zC b,zB (show ¬(n:Int)=k by omega),j0,zC (show 0<=k/\k<((n+1:Nat):Int)from⟨b.1,O⟩)]
   ·rw[zB b,zH];by_cases g:(n:Int)=k
    ·subst g;rw[zC rfl,zC (show(0:Int)<=(n:Int)/\(n:Int)<((n+1:Nat):Int)from⟨O,O⟩),dE,d,a]
    ·rw[zB g,zB O]
 have b:=key tb.length (zD _);have e:QW f tb ls=(List.range tb.length).filterMap λk=>match tb[k]?,ls[k]? with
  | some c,some l=>if(f c l).1=[]then none else some (k,(f c l).1)
  | _,_=>none:=rfl
 rw[e,b];by_cases hk:0<=k
 ·obtain⟨k,rfl⟩:=za hk;rw[vZ,vZ,dE];by_cases hkl:k<tb.length
  ·have d:tb[k]?=some tb[k]:=cV hkl;have a:ls[k]?=some ls[k]:=cV O;rw[zC ⟨O,O⟩,d,a];simp only;have:(QR f tb ls).getD k ib=(f tb[k] ls[k]).2:=by
    unfold QR;rw[zP,yJ,d,a];rfl
   rw[this,zP,a];exact hf _ _ _
  ·rw[zB O,zH];have b:(QR f tb ls).getD k ib=ib:=by
    unfold QR;rw[zP,zV (by rw[List.length_zipWith];omega)];rfl
   have g:ls.getD k ib=ib:=by rw[zP,zV O];rfl
   rw[b,g]
 ·rw[zB O,zH];unfold lg;rw[zB hk,zB hk]
theorem yL (m:Nat)(l:Li)(x:Int):(fZ m l).1.count x+(fZ m l).2.os.count x=l.os.count x:=by
 show(l.os.take m).count x+(l.os.drop m).count x=_;rw[←uQ,nH]
theorem MA (c:bZ)(l:Li)(x:Int):(KC c l).1.count x+(KC c l).2.os.count x=l.os.count x:=yL _ l x
theorem Io (c:bZ)(l:Li)(x:Int):(ZD c l).1.count x+(ZD c l).2.os.count x=l.os.count x:=yL _ l x
theorem Mn (c:bZ)(y:Int)(l:Li)(hl:l.os.length<=255)(x:Int):(dJ c y l).1.count x+(dJ c y l).2.os.count x=l.os.count x + [y].count x:=by
 have a:(eC [y] l).os=l.os++[y]:=by
  unfold eC;rw[zB aE]
 unfold dJ;rw[zB O];split
 ·rw[a,List.count_nil,zH,uQ]
 ·rw[yL];have:(l9 c (eC [y] l)).os=(eC [y] l).os:=by unfold l9;split<;>rfl
  rw[this,a,uQ]
theorem C3 {c:bZ}{l l':Li}{y:Int}(h:QX c l=(some y,l'))(x:Int):l.os.count x=l'.os.count x + [y].count x:=by
 unfold QX at h;split at h
 ·simp at h
 ·rename_i z hz;cases h;have:l.os=l.os.dropLast++[y]:=by
   obtain⟨b,a⟩:=List.getLast?_eq_some_iff.1 hz;rw[a];simp
  conv=>lhs;rw[this]
  rw[uQ]
theorem Se {c:bZ}{l l':Li}(h:QX c l=(none,l')):l.os=[]/\l'.os=[]:=by
 unfold QX at h;split at h
 ·rename_i hz;have:l.os=[]:=by simpa using hz
  cases h;refine⟨this,?_⟩;split<;>exact this
 ·simp at h
theorem Ai {live:List (Int×Bk)}{x:Int}(b:Bk)(h:bV live x=none)(k y:Int):lV (dB live x b) k y=lV live k y+(if b.2.2.1=k then[x].count y else 0):=by
 have a:live.any (λe=>e.1==x)=false:=by
  rw[mA];intro e he hx;unfold bV at h;rw[qO,nR]at h;exact h e he hx
 unfold dB;rw[a,zB aA];unfold lV;rw[List.countP_append]
 congr 1
 rw[wB,List.countP_nil,zH];by_cases h1:b.2.2.1=k
 ·by_cases h2:x=y
  ·subst h2;simp[h1]
  ·simp[h1,h2]
 ·simp[h1]
theorem Gi {live:List (Int×Bk)}{x:Int}{b:Bk}(h:bV live x=none){e:Int×Bk}:e∈dB live x b↔e∈live\/e=(x,b):=by
 have a:live.any (λe=>e.1==x)=false:=by
  rw[mA];intro e he hx;unfold bV at h;rw[qO,nR]at h;exact h e he hx
 unfold dB;rw[a,zB aA,zK,zN]
theorem Gr {live:List (Int×Bk)}{x:Int}{e:Int×Bk}:e∈cT live x↔e∈live/\e.1≠x:=by
 unfold cT;rw[zI];simp
theorem B0:∀{live:List (Int×Bk)} {x:Int} {b:Bk},(live.map (·.1)).Nodup->bV live x=some b->∀k y,lV live k y=lV (cT live x) k y+(if b.2.2.1=k then[x].count y else 0)
 | [],x,b,_,h,_,_=>by simp[bV]at h
 | e::l,x,b,hn,h,k,y=>by
  rw[zS,zr]at hn;by_cases he:e.1=x
  ·have hb:e.2=b:=by
    unfold bV at h;rw[List.find?_cons_of_pos (by simpa using he)]at h;simpa using h
   have hd:cT (e::l) x=l:=by
    unfold cT;rw[ux (by simpa using he),pf];intro a ha;have:a.1≠x:=λg=>hn.1 (zE.2 ⟨a,ha,g.trans he.symm⟩);simpa using this
   rw[hd];unfold lV;rw[wB,hb,he]
   congr 1
   by_cases h1:b.2.2.1=k
   ·by_cases h2:x=y
    ·subst h2;simp[h1]
    ·simp[h1,h2]
   ·simp[h1]
  ·have i:bV l x=some b:=by
    unfold bV at h ⊢
    rwa [List.find?_cons_of_neg (by simpa using he)]at h
   have d:=B0 hn.2 i k y;have hd:cT (e::l) x=e::cT l x:=by
    unfold cT;rw[uJ (by simpa using he)]
   rw[hd];unfold lV at d ⊢;rw[wB,wB,d];omega
theorem EY {live:List (Int×Bk)}{e:Int×Bk}(h:e∈live):1<=lV live e.2.2.2.1 e.1:=by
 unfold lV;exact List.countP_pos_iff.2 ⟨e,h,by simp⟩
structure ju (s s':Sp):Prop where
 l:s'.st.length=s.st.length
 z:∀p,gf s'.st p=0↔gf s.st p=0
 w:s'.wd=s.wd
def ij (m:Nat)(g:Th):Prop:=match g.ph with
 | none=>g.bP=[]
 | some (.take k)=>g.bP=[]/\k<m
 | some (.cH k w)=>g.bP=[]/\k<m/\(g.li k).os=[]/\1<=w/\w<=32
 | some (.cJ k w)=>g.bP=[]/\k<m/\(g.li k).os=[]/\1<=w/\w<=32
 | some (.grow k w)=>g.bP=[]/\k<m/\(g.li k).os=[]/\1<=w/\w<=32
 | some .fill=>∃k x xs,g.bP=[(k,x::xs)]/\k<m/\(g.li k).os=[]/\xs.length<=128
 | some (.eD n)=>g.bP=[]/\1<=n/\n<=64
 | some (.find x)=>g.bP=[]/\iD x
 | some (.put k x)=>g.bP=[(k,[x])]/\k<m
 | some .back=>g.bP≠[]
 | some (.dC _ _)=>g.bP=[]
 | some .drain=>g.bP=[]
structure sC (m:Nat) (g:Th):Prop where
 ll:g.ls.length=m
 lo:∀l∈g.ls,fI l/\l.os.length<=128
 hb:∀b∈g.bP,b.1<m/\b.2≠[]/\b.2.length<=256
 hl:g.bP.length<=41
 ph:ij m g
def Lv (held:List Pc)(e:Int×Bk):Prop:=e.2.1=e.1/\∃p∈held,p.eJ=false/\p.cls=e.2.2.2.1/\(p.addr:Int)=e.1/\e.2.2.1=(p.size:Int)/\e.2.2.2.2=(p.k:Int)
def Gv (held:List Pc)(s a:Int):Prop:=∃p∈held,p.eJ=false/\p.cls = -1/\(p.addr:Int)=s*256/\a=(p.k:Int)
structure HI (H:Hw) (held:List Pc) (s0:Sp):Prop where
 wi:WI ⟨H.tb,s0,H.bX,held⟩
 mP:ju s0 H.sp
 cn:∀k x,pL H k x=kW held k x
 lk:(H.live.map (·.1)).Nodup
 lv:∀e∈H.live,Lv held e
 gv:∀g∈H.bQ,∀s a,g.ph=some (.dC s a)->Gv held s a
 th:∀g∈H.bQ,sC H.tb.length g
 ok:∀c∈H.tb,c.ok
 a1:1<=H.bX.length
 sl:H.sp.st.length=H.cf.aF
variable {H:Hw}{held:List Pc}{s0:Sp}{t k:Nat}{g:Th}{A:AR}
theorem ju.refl (s:Sp):ju s s:=⟨rfl,λ_=>Iff.rfl,rfl⟩
theorem HI.apart (h:HI H held s0){p q:Pc}(hp:p∈held)(hq:q∈held){x:Nat}(p1:p.addr<=x)(p2:x<p.addr+p.size)(q1:q.addr<=x)(q2:x<q.addr+q.size):p=q:=h.wi.apart hp hq p1 p2 q1 q2
theorem WI.same {W:Wd}(h:WI W){p q:Pc}(hp:p∈W.held)(hq:q∈W.held)(e:p.addr=q.addr):p=q:=by
 have b:=(h.size_pos hp).1;have a:=(h.size_pos hq).1;exact h.apart hp hq (x:=p.addr) (zD _) O O O
theorem WI.um {W:Wd}(h:WI W){p:Pc}(hp:p∈W.held){k x:Int}(hu:Um W.held k x)(e:(p.addr:Int)=x):p.eJ=false/\p.cls=k:=by
 obtain⟨q,a,d,b,g⟩:=hu;obtain rfl:=h.same hp a O;exact⟨d,b⟩
theorem HI.mN (h:HI H held s0){e:Int×Bk}(he:e∈H.live):Um held e.2.2.2.1 e.1:=by
 obtain⟨_,p,b,g,d,a,_⟩:=h.lv e he;exact⟨p,b,g,d,a⟩
theorem HI.nU (h:HI H held s0){g:Th}(hg:g∈H.bQ)(k x:Int):gF g k x<=kW held k x:=by
 rw[←h.cn];unfold pL;have:=Ae (λg=>gF g k x) hg;omega
theorem HI.qA (h:HI H held s0){g:Th}(hg:g∈H.bQ){k x:Int}(hc:1<=gF g k x):Um held k x:=Bz (zh hc (h.nU hg k x))
theorem HI.lE (h:HI H held s0){g:Th}(hg:g∈H.bQ){k x:Int}(hc:1<=gF g k x):bV H.live x=none:=by
 cases hm:bV H.live x with
 | none=>rfl
 | some b=>
  have a:=Vh hm;have p:=h.qA hg hc;obtain⟨q,j,w,r,m⟩:=h.mN a;have i:k=b.2.2.1:=by
   have:=(h.wi.um (W:=⟨H.tb,s0,H.bX,held⟩) j p m).2;exact this.symm.trans r
  have u:=EY a;have e:=h.cn k x;have s:=DY held k x;have d:=Ae (λg=>gF g k x) hg;simp only at u d;unfold pL at e;rw[i]at e s d hc;omega
theorem HI.r8 (h:HI H held s0){x:Int}(hn:∀k,¬Um held k x):bV H.live x=none:=by
 cases hm:bV H.live x with
 | none=>rfl
 | some b=>exact(hn _ (h.mN (Vh hm))).elim
theorem HI.fB (h:HI H held s0)(hg:H.bQ[t]?=some g){g':Th}{live':List (Int×Bk)}{s0' sp':Sp}{ars':List AR}{held':List Pc}(wi:WI ⟨H.tb,s0',ars',held'⟩)(mP:ju s0' sp')(hsl:sp'.st.length=H.sp.st.length)(hl:ars'.length=H.bX.length)
 (sub:∀p∈held',p.eJ=false->p∈held\/∀k,¬Um held k (p.addr:Int))
 (cn:∀k x,lV live' k x+gF g' k x+kW held k x=lV H.live k x+gF g k x+kW held' k x)
 (lk:(live'.map (·.1)).Nodup) (lv:∀e∈live',e∈H.live\/Lv held' e) (gv:∀s a,g'.ph=some (.dC s a)->Gv held' s a) (th:sC H.tb.length g') :
 HI {H with live:=live',sp:=sp',bX:=ars',bQ:=H.bQ.set t g'} held' s0':=by
 have r:∀k x,pL {H with live:=live',sp:=sp',bX:=ars',bQ:=H.bQ.set t g'} k x=kW held' k x:=λk x=>by
  have b:=h.cn k x;have u:=cn k x;have d:=Ca (λg=>gF g k x) g' hg;unfold pL at b ⊢;simp only at d ⊢;omega
 have G:=(cW.1 hg).1;have bS:∀p∈held,p.eJ=false->Um held' p.cls (p.addr:Int)->p∈held':=λp m E ⟨q,A,b,u,d⟩=>by
  rcases sub q A b with hs|hs
  ·have:q=p:=h.wi.same (W:=⟨H.tb,s0,H.bX,held⟩) hs m O;rw[←this];exact A
  ·exact(hs p.cls ⟨p,m,E,rfl,d.symm⟩).elim
 refine⟨wi,mP,r,lk,λe B=>?_,λw i s a m=>?_,λw i=>?_,h.ok,by simp only;rw[hl];exact h.a1,hsl.trans h.sl⟩
 ·rcases lv e B with he'|he'
  ·obtain⟨C,p,m,b,u,d,z⟩:=h.lv e he';refine⟨C,p,bS p m b ?_,b,u,d,z⟩;rw[u,d];apply Bz;rw[←r];have:1<=lV live' e.2.2.2.1 e.1:=EY B;unfold pL;simp only;omega
  ·exact he'
 ·rcases List.mem_iff_getElem?.1 i with⟨j,hj⟩;rcases KM hj with⟨rfl,rfl,_⟩|⟨hne,hj'⟩
  ·exact gv s a m
  ·obtain⟨p,y,b,u,d,z⟩:=h.gv w (zG hj') s a m;refine⟨p,bS p y b ?_,b,u,d,z⟩;rw[u,d];apply Bz;rw[←r];have D:=Ae (λg=>gF g (-1) (s*256)) i;have F:1<=gF w (-1) (s*256):=by unfold gF;rw[m];simp[jy]
   unfold pL;simp only at D ⊢;omega
 ·rcases List.mem_iff_getElem?.1 i with⟨j,hj⟩;rcases KM hj with⟨rfl,rfl,_⟩|⟨hne,hj'⟩
  ·exact th
  ·exact h.th w (zG hj')
theorem HI.kj (h:HI H held s0)(hg:H.bQ[t]?=some g){g':Th}{live':List (Int×Bk)}(cn:∀k x,lV live' k x+gF g' k x=lV H.live k x+gF g k x)(lk:(live'.map (·.1)).Nodup)(lv:∀e∈live',e∈H.live\/Lv held e)
 (gv:∀s a,g'.ph=some (.dC s a)->Gv held s a) (th:sC H.tb.length g'):HI {H with live:=live',bQ:=H.bQ.set t g'} held s0:=
 h.fB hg h.wi h.mP rfl rfl (λp b _=>.inl b) (λk x=>by have:=cn k x;omega) lk lv gv th
theorem RO {A:AR}{x:Int}:n4 A x=true↔0<=x/\A.f x.toNat≠0:=by
 unfold n4 AR.f gf;simp
theorem WI.owner {W:Wd}(h:WI W){p:Pc}(hp:p∈W.held){x:Nat}(h1:p.addr<=x)(h2:x<p.addr+p.size):XO W.bX (x:Int)=(p.k:Int):=by
 obtain⟨A,b,_⟩:=h.hf p hp;have g:=h.qg hp b h1 h2;have a:=(cW.1 b).1;have own:∀(j:Nat) (B:AR),W.bX[j]?=some B->(n4 B ((x:Int)/256)=true↔j=p.k):=λj B d=>by
  have e:((x:Int)/256).toNat=x/256:=by omega
  rw[RO,e];constructor
  ·rintro⟨_,hf⟩;exact h.one (x/256) j p.k B A d b hf O
  ·rintro rfl;rw[b]at d;cases d;exact⟨O,O⟩
 unfold XO;rw[zB O];have hf:W.bX.findIdx? (λA=>n4 A ((x:Int)/256))=some p.k:=by
  rw[nk];refine⟨a,(own p.k _ (cV a)).2 rfl,λj i=>?_⟩;have:=own j W.bX[j] (cV O);intro hx;have:=this.1 hx;omega
 rw[hf]
theorem HI.owner (h:HI H held s0){p:Pc}(hp:p∈held){x:Nat}(h1:p.addr<=x)(h2:x<p.addr+p.size):XO H.bX (x:Int)=(p.k:Int):=h.wi.owner (W:=⟨H.tb,s0,H.bX,held⟩) hp h1 h2
theorem HI.oQ (h:HI H held s0){p:Pc}(hp:p∈held):XO H.bX (p.addr:Int)=(p.k:Int):=h.owner hp (zD _) (by have:=(h.wi.size_pos (W:=⟨H.tb,s0,H.bX,held⟩) hp).1;omega)
theorem HI.i63 (h:HI H held s0){k x:Int}(hu:Um held k x):iD x/\0<=x/\0<=XO H.bX x:=by
 obtain⟨p,a,_,_,rfl⟩:=hu;have:=(h.wi.jE (W:=⟨H.tb,s0,H.bX,held⟩) a).1;refine⟨by unfold iD;omega,O,?_⟩;rw[h.oQ a];omega
end Go.Ar
namespace Go.Ar
open Go.Vc (bV dB cT)
open Go.Bu (Za)
structure KS (s s':Sp):Prop where
 l:s'.st.length=s.st.length
 k:∀p,gf s.st p≠0->gf s'.st p≠0/\∀w,w/32=p->s'.wd w=s.wd w
theorem KS.refl (s:Sp):KS s s:=⟨rfl,λp a=>⟨a,λ_ _=>rfl⟩⟩
theorem KS.trans {a b c:Sp}(h:KS a b)(k:KS b c):KS a c:=⟨k.l.trans h.l,λp d=>⟨(k.k p (h.k p d).1).1,λw e=>((k.k p (h.k p d).1).2 w e).trans ((h.k p d).2 w e)⟩⟩
variable {s s' sp sp' s0 s0':Sp}{A B:AR}{k:Nat}
theorem ju.mz (h:ju s s'):s'.st.map (λx=>decide (x=0))=s.st.map λx=>decide (x=0):=by
 refine zo λi=>?_;rw[zd,zd];have a:=h.z i;unfold gf at a;rw[zP,zP]at a;by_cases hi:i<s.st.length
 ·have b:i<s'.st.length:=by rw[h.l];exact hi
  rw[cV hi,cV b]at a ⊢;simp only[py]at a;simp[a]
 ·have d:=h.l;rw[zV O,zV O]
theorem Su {l l':List Nat}(h:l'.map (λx=>decide (x=0))=l.map λx=>decide (x=0))(a m:Nat)(f:Bool->Bool):((l'.drop a).take m).any (λx=>f (decide (x=0)))=((l.drop a).take m).any λx=>f (decide (x=0)):=by
 have e:∀l:List Nat,((l.drop a).take m).any (λx=>f (decide (x=0)))=(((l.map λx=>decide (x=0)).drop a).take m).any f:=λl=>by
  rw[←List.map_drop,←List.map_take,List.any_map];rfl
 rw[e,e,h]
theorem ju.eZ (h:ju s s')(a m:Int):eZ s' a m=eZ s a m:=by
 unfold Go.Ar.eZ;rw[h.l];have:=Su h.mz a.toNat m.toNat (λb=>!b);have e:∀l:List Nat,l.any (λx=>x != 0)=l.any λx=>!decide (x=0):=λl=>by
  refine congrArg l.any (funext λx=>?_);cases x<;>rfl
 rw[e,e,this]
theorem ju.set (h:ju s s'){a m v:Nat}(hl:a+m<=s.st.length):ju (s.set a m v) (s'.set a m v):=by
 refine⟨by simp[Sp.set,Ku,h.l],λp=>?_,?_⟩
 ·show gf (gg s'.st a (a+m) v) p=0↔gf (gg s.st a (a+m) v) p=0;rw[uc (by rw[h.l];exact hl),uc hl];split
  ·exact Iff.rfl
  ·exact h.z p
 ·show(λw=>if a*32<=w/\w<(a+m)*32 then 0 else s'.wd w)=_
  rw[h.w];rfl
theorem F9 {n:Nat}{a m:Int}(h:Za n a m=true):a.toNat+m.toNat<=n:=by
 by_cases h0:0<=a/\0<=m
 ·obtain⟨a,rfl⟩:=za h0.1;obtain⟨m,rfl⟩:=za h0.2;rw[dE,dE];exact(VV.1 h).2
 ·exfalso;unfold Za at h;simp at h;omega
theorem ju.fS (h:ju s s')(a m:Int):ju (fS s a m) (fS s' a m):=by
 unfold Go.Ar.fS;rw[h.eZ];split
 ·rename_i h0;refine h.set ?_;unfold Go.Ar.eZ at h0;split at h0
  ·rename_i hr;exact F9 hr
  ·simp at h0
 ·exact h
theorem Cg (s:Sp)(a m:Nat):KS s (fS s (a:Int) (m:Int)):=by
 by_cases h:eZ s (a:Int) (m:Int)=0
 ·have g:=B1 h;obtain⟨i,r,j,_⟩:=Ee h;refine⟨i,λp e=>?_⟩;have b:¬(a<=p/\p<a+m):=λd=>e (g.2.2 p d.1 d.2);exact⟨by rw[r,zB b];exact e,λw u=>j w O⟩
 ·unfold fS;rw[zB h];exact KS.refl s
theorem ju.cY (h:ju s s')(size:Nat):cY s' size=cY s size:=by
 unfold Go.Ar.cY;rw[h.l]
 congr 1
 funext x
 rw[h.eZ]
theorem ju.cZ (h:ju s s')(A:AR)(m a no:Nat):(cZ A s' m a no).1=(cZ A s m a no).1/\(cZ A s' m a no).2.1=(cZ A s m a no).2.1/\ju (cZ A s m a no).2.2 (cZ A s' m a no).2.2/\KS s' (cZ A s' m a no).2.2:=by
 unfold Go.Ar.cZ;split
 ·exact⟨rfl,rfl,h,KS.refl _⟩
 ·unfold Uu;rw[h.cY];cases hg:Go.Ar.cY s (QO (max m a))with
  | none=>exact⟨rfl,rfl,h,KS.refl _⟩
  | some x=>
   simp only;split
   ·exact⟨rfl,rfl,h.fS _ _,Cg _ _ _⟩
   ·exact⟨rfl,rfl,h.fS _ _,Cg _ _ _⟩
theorem ju.cL (h:ju s s')(A:AR)(k:Int):(cL A s' k).1=(cL A s k).1/\KA A s' k=KA A s k/\ju (cL A s k).2 (cL A s' k).2/\KS s' (cL A s' k).2:=by
 unfold Go.Ar.cL KA;split
 ·split
  ·rename_i c ss _ _;obtain⟨d,b,a,e⟩:=h.cZ A c.aF 1 (k.toNat+1);cases e1:Go.Ar.cZ A s c.aF 1 (k.toNat+1)with
   | mk o1 r1=>cases e2:Go.Ar.cZ A s' c.aF 1 (k.toNat+1)with
    | mk o2 r2=>
     obtain⟨m,g⟩:=r1;obtain⟨i,j⟩:=r2;rw[e1,e2]at d b a;rw[e2]at e;simp only at d b a e;subst d;subst b;cases o2<;>exact⟨rfl,rfl,a,e⟩
  ·exact⟨rfl,rfl,h,KS.refl _⟩
 ·exact⟨rfl,rfl,h,KS.refl _⟩
theorem ju.cA (h:ju s s')(A:AR)(m a:Int):(cA A s' m a).1=(cA A s m a).1/\Qh A s' m a=Qh A s m a/\ZT A s' m a=ZT A s m a/\ju (cA A s m a).2 (cA A s' m a).2/\KS s' (cA A s' m a).2:=by
 unfold Go.Ar.cA Qh ZT;split
 ·obtain⟨e,d,b,g⟩:=h.cZ A m.toNat a.toNat 41;cases e1:Go.Ar.cZ A s m.toNat a.toNat 41 with
  | mk o1 r1=>cases e2:Go.Ar.cZ A s' m.toNat a.toNat 41 with
   | mk o2 r2=>
    obtain⟨r,i⟩:=r1;obtain⟨j,p⟩:=r2;rw[e1,e2]at e d b;rw[e2]at g;simp only at e d b g;subst e;subst d;cases o2<;>exact⟨rfl,rfl,rfl,b,g⟩
 ·exact⟨rfl,rfl,rfl,h,KS.refl _⟩
variable {W:Wd}
theorem Ms (h:WI W){cl:Int}{l:List Int}(ho:jg W.held k cl l=true)(c x:Int):Um (W.held.filter λp=>!dV k cl l p) c x↔Um W.held c x/\¬(c=cl/\x∈l):=by
 constructor
 ·rintro⟨p,hp,h1,h2,h3⟩;obtain⟨a,d⟩:=zI.1 hp;refine⟨⟨p,a,h1,h2,h3⟩,?_⟩;rintro⟨rfl,b⟩;obtain⟨q,m,e⟩:=(Ko.1 ho).1 x b;obtain⟨j,r,u,s⟩:=Kt.1 e;obtain rfl:=h.same (p:=p) (q:=q) a m O;have:dV k c l p=true:=ZS.2 ⟨j,h2,by rw[h3];exact b⟩;rw[this]at d;cases d
 ·rintro⟨⟨p,hp,h1,h2,h3⟩,d⟩;refine⟨p,zI.2 ⟨hp,?_⟩,h1,h2,h3⟩;have:dV k cl l p=false:=nh.2 λb=>by
   obtain⟨_,g,i⟩:=ZS.1 b;exact d ⟨h2.symm.trans g,by rw[←h3];exact i⟩
  rw[this];rfl
theorem Mf {held:List Pc}{cl:Int}{l:List Int}(ho:jg held k cl l=true):∀x∈l,Um held cl x:=λx b=>by
 obtain⟨q,g,a⟩:=(Ko.1 ho).1 x b;obtain⟨j,d,i,e⟩:=Kt.1 a;exact⟨q,g,e,d,i⟩
theorem Oy (h:WI W){cl:Int}{l:List Int}(ho:jg W.held k cl l=true)(c x:Int):Um (Hv W.held k cl l true) c x↔Um W.held c x/\¬(c=cl/\x∈l):=by
 constructor
 ·rintro⟨p,hp,h1,h2,h3⟩;obtain⟨q,b,rfl⟩:=Qv.1 hp;by_cases hof:dV k cl l q=true
  ·rw[zC hof]at h1;cases h1
  ·rw[zB hof]at h1 h2 h3;refine⟨⟨q,b,h1,h2,h3⟩,?_⟩;rintro⟨rfl,hx⟩;obtain⟨r,i,a⟩:=(Ko.1 ho).1 x hx;obtain⟨e,j,s,m⟩:=Kt.1 a;obtain rfl:=h.same b i O;exact hof (ZS.2 ⟨e,h2,by rw[h3];exact hx⟩)
 ·rintro⟨⟨p,hp,h1,h2,h3⟩,hn⟩;refine⟨p,Qv.2 ⟨p,hp,?_⟩,h1,h2,h3⟩;rw[zB];intro hx;obtain⟨_,d,g⟩:=ZS.1 hx;exact hn ⟨h2.symm.trans d,by rw[←h3];exact g⟩
theorem NF {held:List Pc}{cl:Int}{l:List Int}:∀p∈Hv held k cl l true,p.eJ=false->p∈held:=λp d a=>by
 obtain⟨q,b,rfl⟩:=Qv.1 d;by_cases hof:dV k cl l q=true
 ·rw[zC hof]at a;cases a
 ·rw[zB hof];exact b
theorem IY (h:WI W)(hk:W.bX[k]?=some A){j:Nat}:(∀x∈Yn A (j:Int),∀c,¬Um W.held c x)/\(Yn A (j:Int)).Nodup/\(∀c x,Um (Hv W.held k j (Yn A (j:Int)) false) c x↔Um W.held c x\/(c=j/\x∈Yn A (j:Int))) ∧
 (∀p∈Hv W.held k j (Yn A (j:Int)) false,p.eJ=false->p∈W.held\/∀c,¬Um W.held c (p.addr:Int)):=by
 obtain⟨o,e1,e2,F,K,J⟩:=C0 (h.ga k A hk) (j:Int);rw[dE]at e2;have y:∀x∈Yn A (j:Int),∃q∈W.held,q.k=k/\q.cls=j/\(q.addr:Int)=x/\q.eJ=true:=λx d=>by
  have r:=e2 x d;obtain⟨t,ht,e⟩:=r;have u:j<A.tb.length:=by rw[←(h.ga k A hk).lt];exact(cW.1 ht).1
  obtain⟨c,G,L,z,C⟩:=(h.ga k A hk).cl u;have s:fM A j x:=(KV z).2 ((h.ga k A hk).lR j c G t z ht x e);obtain⟨q,a,m,g,b⟩:=h.ht k A hk j x s;obtain⟨_,_,_,_,H⟩:=h.cls a g (by rw[m];exact hk);exact⟨q,a,m,g,b,H.2 (by rw[b];exact⟨t,ht,e⟩)⟩
 have new:∀x∈Yn A (j:Int),∀c,¬Um W.held c x:=λx d c E=>by
  obtain⟨q,a,_,_,b,w⟩:=y x d;have:=(h.um a E b).1;rw[w]at this;cases this
 refine⟨new,F,λc x=>⟨?_,?_⟩,λp i M=>?_⟩
 ·rintro⟨p,i,h1,h2,h3⟩;obtain⟨q,a,rfl⟩:=Qv.1 i;by_cases hof:dV k (j:Int) (Yn A (j:Int)) q=true
  ·rw[zC hof]at h2 h3;obtain⟨_,B,D⟩:=ZS.1 hof;exact .inr ⟨h2.symm.trans B,by rw[←h3];exact D⟩
  ·rw[zB hof]at h1 h2 h3;exact .inl ⟨q,a,h1,h2,h3⟩
 ·rintro(⟨p,i,h1,h2,h3⟩|⟨rfl,d⟩)
  ·refine⟨p,Qv.2 ⟨p,i,?_⟩,h1,h2,h3⟩;split
   ·rw[←h1]
   ·rfl
  ·obtain⟨q,a,m,g,b,w⟩:=y x d;refine⟨{q with eJ:=false},Qv.2 ⟨q,a,?_⟩,rfl,g,b⟩;rw[zC (ZS.2 ⟨m,g,by rw[b];exact d⟩)]
 ·obtain⟨q,a,rfl⟩:=Qv.1 i;by_cases hof:dV k (j:Int) (Yn A (j:Int)) q=true
  ·rw[zC hof];exact .inr (new _ (ZS.1 hof).2.2)
  ·rw[zB hof];exact .inl a
theorem Ad {tb:List bZ}{bX:List AR}{sp:Sp}{held new:List Pc}(h:WI ⟨tb,sp,bX,held++new⟩):∀p∈new,∀c,¬Um held c (p.addr:Int):=by
 rintro p b c ⟨q,d,_,_,g⟩;have e:=h.same (p:=p) (q:=q) (nF _ b) (kv _ d) O;have a:=h.hk;simp only[jY]at a;rw[nK]at a;exact a.2.2 q.key (zE.2 ⟨q,d,rfl⟩) p.key (zE.2 ⟨p,b,rfl⟩) (by rw[e])
theorem CM {held new:List Pc}{cl:Int}{l:List Int}(h1:∀p∈new,p.eJ=false/\p.cls=cl/\(p.addr:Int)∈l)(h2:∀x∈l,∃p∈new,(p.addr:Int)=x)(c x:Int):Um (held++new) c x↔Um held c x\/(c=cl/\x∈l):=by
 constructor
 ·rintro⟨p,b,a1,a2,a3⟩;rcases zK.1 b with b|b
  ·exact .inl ⟨p,b,a1,a2,a3⟩
  ·obtain⟨_,d,g⟩:=h1 p b;exact .inr ⟨a2.symm.trans d,by rw[←a3];exact g⟩
 ·rintro(⟨p,b,a⟩|⟨rfl,hx⟩)
  ·exact⟨p,kv _ b,a⟩
  ·obtain⟨p,b,e⟩:=h2 x hx;exact⟨p,nF _ b,(h1 p b).1,(h1 p b).2.1,e⟩
theorem Fi {tb:List bZ}{bX:List AR}{sp:Sp}{held new:List Pc}(h:WI ⟨tb,sp,bX,held++new⟩):∀p∈held++new,p.eJ=false->p∈held\/∀c,¬Um held c (p.addr:Int):=λp a _=>by
 rcases zK.1 a with a|a
 ·exact .inl a
 ·exact .inr (Ad h p a)
theorem KH {ss:List cG}:∀{i:Nat},Y8 ss i=none->∀k,k<i->∀s,ss[k]?=some s->¬s.many<s.tk.length
 | 0,_,k,hk,_,_=>by omega
 | i+1,h,k,hk,s,hs=>by
  unfold Y8 at h;by_cases hki:k=i
  ·subst hki;rw[hs]at h;simp only at h;intro hlt;rw[zC hlt]at h;split at h
   ·split at h
    ·split at h<;>cases h
    ·cases h
   ·cases h
  ·cases hi:ss[i]? with
   | none=>
    rw[hi]at h;exact KH h k O s hs
   | some x=>
    rw[hi]at h;simp only at h;split at h
    ·split at h
     ·split at h
      ·split at h<;>cases h
      ·cases h
     ·exact KH (by assumption) k O s hs
    ·exact KH h k O s hs
theorem Ou (h:GA A)(hw:Ow A sp){j:Nat}(hE:KA A sp (j:Int)=0){w:Nat}(h1:1<=w):X9 (cL A sp (j:Int)).1 (j:Int) (w:Int)≠[]:=by
 rcases GU h hw (j:Int)with⟨_,hn,_⟩|⟨j',c,ss,x,A1,sp1,hj,hk,hk1,_,e,hst,r1,r2,r3,_,hd,hS⟩
 ·exact(hn hE).elim
 ·obtain rfl:j=j':=by omega
  have a:Cl (cL A sp (j:Int)).1 j c (ig c ss x):=by
   rw[e];have u:Cl (dN A1 x c.aF (j+1)) j c ss:=hk1;exact UH u _
  have D:=hS.ga.cD j c _ a;have b:(⟨x,List.replicate c.n false⟩:cG)∈ig c ss x:=Vf.2 (.inl rfl);have g:(cL A sp (j:Int)).1.ck (j:Int)=true:=UY.2 ⟨j,rfl,a.lt⟩;unfold X9 Qo Vi;rw[g,zC rfl,zB (show ¬((w:Int)<0) by omega),zC rfl,dE,dE,a.1,a.2];simp only;obtain⟨w,rfl⟩:∃v,w=v+1:=⟨w-1,O⟩;cases ho:iU c (ig c ss x)with
  | some r=>
   obtain⟨y,E⟩:=r;rw[Ho ho];simp
  | none=>
   exfalso;unfold iU iG at ho;obtain⟨l,z⟩:=zQ b;have m:=(cW.1 z).1;have d:(⟨x,List.replicate c.n false⟩:cG).many<(⟨x,List.replicate c.n false⟩:cG).tk.length:=by
    have:=D.ok.qX;simp[cG.many,xf];omega
   cases hb:Y8 (ig c ss x) (ig c ss x).length with
   | none=>exact KH hb l m _ z d
   | some i=>
    rw[hb]at ho;obtain⟨_,s,B,p⟩:=QC hb;obtain⟨r,C,_⟩:=Gs p;simp only[B,C]at ho;cases ho
end Go.Ar
namespace Go.Ar
open Go.Vc (bV dB cT)
variable {H:Hw}{held:List Pc}{s0:Sp}{t k:Nat}{g:Th}{A:AR}{c:bZ}
theorem ZR {p:Ph}{H1:Hw}{g1:Th}{nx:Option Ph}{a e:Int}(ht:t<H.bQ.length)(hs:Wt H t p=({H1 with bQ:=H.bQ.set t g1},nx,a,e)):Qq H t p = {H1 with bQ:=H.bQ.set t {g1 with ph:=nx}}:=by
 unfold Qq;rw[hs];show Hw.dU _ t _=_;rw[Zp (g:=g1) (by simp[ht])];simp only[nr]
structure iw (H:Hw) (t:Nat) (p:Ph):Prop where
 ok:tW H t p
 hi:∃held s0,HI (Qq H t p) held s0
 ks:KS H.sp (Qq H t p).sp
theorem iw.mk' {p:Ph}(hg:H.bQ[t]?=some g)(hl:g.bP.length<=41)(h1:tN H t p){H':Hw}{held':List Pc}{s0':Sp}(e:Qq H t p=H')(h2:HI H' held' s0')(h3:KS H.sp H'.sp):iw H t p:=
 ⟨⟨h1,λb a=>by rw[hg]at a;cases a;omega⟩,⟨held',s0',by rw[e];exact h2⟩,by rw[e];exact h3⟩
def Rq (tb:List bZ)(g:Th):Ph->Int->Int->Prop
 | .take k,cl,sz=>cl=k/\∃c,tb[k]?=some c/\sz=c.size
 | .cH k _,cl,sz=>cl=k/\∃c,tb[k]?=some c/\sz=c.size
 | .cJ k _,cl,sz=>cl=k/\∃c,tb[k]?=some c/\sz=c.size
 | .grow k _,cl,sz=>cl=k/\∃c,tb[k]?=some c/\sz=c.size
 | .fill,cl,sz=>∃k xs r c,g.bP=(k,xs)::r/\cl=k/\tb[k]?=some c/\sz=c.size
 | .eD m,cl,sz=>cl = -1/\sz=((m*256:Nat):Int)
 | _,_,_=>False
def og (H:Hw)(t:Nat):Ph->Nat
 | .take _=>5
 | .cH _ _=>4
 | .cJ k w=>if X9 (H.dZ t) (k:Int) (w:Int)=[]then 3 else 1
 | .grow _ _=>2
 | _=>0
def tE (H:Hw)(t:Nat)(p:Ph)(cl sz:Int):Prop:=
 (∃p' g',(Wt H t p).2.1=some p'/\(Qq H t p).live=H.live/\(Qq H t p).bQ[t]?=some g'/\Rq H.tb g' p' cl sz/\og (Qq H t p) t p'<og H t p) ∨
 ((Wt H t p).2.1=none/\(Wt H t p).2.2.2≠0/\(Wt H t p).2.2.1=0/\(Qq H t p).live=H.live) ∨
 ((Wt H t p).2.1=none/\(Wt H t p).2.2.2=0/\bV H.live (Wt H t p).2.2.1=none/\(Qq H t p).live=dB H.live (Wt H t p).2.2.1 ((Wt H t p).2.2.1,sz,cl,XO (Qq H t p).bX (Wt H t p).2.2.1))
theorem HI.mem (h:HI H held s0)(hg:H.bQ[t]?=some g):g∈H.bQ:=zG hg
theorem HI.jK (h:HI H held s0)(t:Nat):H.own t<H.bX.length:=tJ _ (by have:=h.a1;omega)
theorem HI.dZ (h:HI H held s0)(t:Nat):H.bX[H.own t]?=some (H.dZ t):=by
 have a:=cV (h.jK t);rw[AY a];exact a
theorem HI.qn (h:HI H held s0):H.tb.length<=40:=by
 have a:=h.dZ 0;have:=(h.wi.ga _ _ a).tb;rw[h.wi.tb _ _ a]at this;exact this
theorem HI.cls (h:HI H held s0)(hk:k<H.tb.length):∃c,H.tb[k]?=some c/\c.ok:=⟨H.tb[k],cV hk,h.ok _ (j4 hk)⟩
theorem sC.li {m:Nat}(h:sC m g)(hk:k<m):∃l,g.ls[k]?=some l/\g.li k=l/\fI l/\l.os.length<=128:=by
 have a:=cV (l:=g.ls) (i:=k) (by rw[h.ll];exact hk);have:=h.lo _ (j4 (by rw[h.ll];exact hk));exact⟨_,a,yp a,this.1,this.2⟩
theorem sC.gH {m:Nat}(h:sC m g){l':Li}(h1:fI l')(h2:l'.os.length<=128):(g.ls.set k l').length=m/\∀l∈g.ls.set k l',fI l/\l.os.length<=128:=by
 refine⟨by rw[nQ];exact h.ll,λl a=>?_⟩;rcases yu a with a|rfl
 ·exact h.lo l a
 ·exact⟨h1,h2⟩
theorem IB {ls:List Li}{l':Li}{hs:List Bt}{ph:Option Ph}(hk:k<ls.length):(⟨ls.set k l',hs,ph⟩:Th).li k=l':=by
 unfold Th.li;rw[DO l' k hk,zC rfl]
theorem HI.vC (h:HI H held s0){y:Int}(hu:Um held (k:Int) y)(hc:H.tb[k]?=some c):Lv held (y,(y,(c.size:Int),(k:Int),XO H.bX y)):=by
 obtain⟨p,d,i,g,rfl⟩:=hu;obtain⟨A,e,_⟩:=h.wi.hf p d;obtain⟨c',b,j,_⟩:=h.wi.cls d g e;rw[h.wi.tb _ _ e]at b;have a:H.tb[k]?=some c':=b;rw[hc]at a;cases a;exact⟨rfl,p,d,i,g,rfl,by rw[j],by rw[h.oQ d]⟩
theorem Gq {ls:List Li}{l:Li}(hl:ls[k]?=some l)(l':Li)(k' x:Int):lg (ls.set k l') k' x+(if(k:Int)=k' then l.os.count x else 0)=lg ls k' x+(if(k:Int)=k' then l'.os.count x else 0):=by
 have:=Ls l' (cW.1 hl).1 k' x;rw[zP,hl]at this;exact this
theorem Ld {ls:List Li}{l:Li}(hl:ls[k]?=some l)(x:Int):lg ls (k:Int) x=l.os.count x:=by
 rw[vZ,zP,hl];rfl
theorem JS (h:HI H held s0)(hg:H.bQ[t]?=some g)(hph:g.ph=some (.take k)){cl sz:Int}(hr:Rq H.tb g (.take k) cl sz):iw H t (.take k)/\tE H t (.take k) cl sz:=by
 have M:=(cW.1 hg).1;have b:=h.th g (h.mem hg);obtain⟨P,u⟩:g.bP=[]/\k<H.tb.length:=by have:=b.ph;unfold ij at this;rw[hph]at this;exact this
 obtain⟨rfl,c,m,rfl⟩:=hr;have B:=h.ok c (zG m);obtain⟨l,hl,j,K,V⟩:=b.li u;have d:=Fj B K;have i:=HV hg;cases hT:QX c l with
 | mk o l'=>
  rw[hT]at d;cases o with
  | some y=>
   have p:Wt H t (.take k)=({{H with live:=dB H.live y (y,(c.size:Int),(k:Int),XO H.bX y)}with bQ:=H.bQ.set t {g with ls:=g.ls.set k l'}},none,y,0):=by
    simp only[Wt,i,VT m,j,hT,Vk,Zp hg,Th.gH]
   have e:=ZR M p;have C:1<=gF g (k:Int) y:=by
    have:=C3 hT y;rw[Br]at this;unfold gF;rw[Ld hl];omega
   have Q:=h.qA (h.mem hg) C;have N:=h.lE (h.mem hg) C;have z:l'.os.length<=128:=by
    have:l'.os.length<=l.os.length:=by
     unfold QX at hT;split at hT
     ·cases hT
     ·cases hT;simp
    omega
   obtain⟨ll,F⟩:=b.gH (k:=k) d z;have G:=h.kj hg (g':={g with ls:=g.ls.set k l',ph:=none}) (live':=dB H.live y (y,(c.size:Int),(k:Int),XO H.bX y)) (λE x=>by
    rw[Ai _ N];have D:=Gq hl l' E x;have W:=C3 hT x;unfold gF;rw[hph];simp only[jy];by_cases hkk:(k:Int)=E
    ·simp only[hkk,zR]at D ⊢;omega
    ·simp only[hkk,zz]at D ⊢;omega)
    (Go.Vc.gP h.lk) (λU w=>by
     rcases(Gi N).1 w with w|rfl
     ·exact .inl w
     ·exact .inr (h.vC Q m))
    (λs a L=>by cases L) ⟨ll,F,b.hb,b.hl,by unfold ij;exact P⟩
   refine⟨iw.mk' hg b.hl ⟨u,λR J A=>?_⟩ e G (KS.refl _),.inr (.inr ?_)⟩
   ·rw[i,j,VT m,hT]at A;cases A;exact(h.i63 Q).1
   ·rw[e,p];exact⟨rfl,rfl,N,rfl⟩
  | none=>
   have p:Wt H t (.take k)=({H with bQ:=H.bQ.set t {g with ls:=g.ls.set k l'}},some (.cH k (GD c l')),0,0):=by
    simp only[Wt,i,VT m,j,hT,Zp hg,Th.gH]
   have e:=ZR M p;obtain⟨o1,o2⟩:=Se hT;obtain⟨ll,F⟩:=b.gH (k:=k) d (by rw[o2];simp);have r:=d.nm;have S:1<=GD c l'/\GD c l'<=32:=by
    unfold bZ.ok at B;unfold GD;simp only at r;omega
   have G:=h.kj hg (g':={g with ls:=g.ls.set k l',ph:=some (.cH k (GD c l'))}) (live':=H.live) (λE x=>by
    have D:=Gq hl l' E x;rw[o1,o2]at D;unfold gF;rw[hph];simp only[jy];omega) h.lk (λU w=>.inl w) (λs a L=>by cases L) ⟨ll,F,b.hb,b.hl,by
     unfold ij;exact⟨P,u,by rw[IB (by rw[b.ll];exact u)];exact o2,S⟩⟩
   refine⟨iw.mk' hg b.hl ⟨u,λR J A=>?_⟩ e G (KS.refl _),.inl ?_⟩
   ·rw[i,j,VT m,hT]at A;cases A
   ·rw[e,p];exact⟨_,_,rfl,rfl,zL M,⟨rfl,c,m,rfl⟩,by simp[og]⟩
theorem HP (h:GA A)(h0:ZV A (k:Int)=0)(hc:A.tb[k]?=some c):∃x xs,Yn A (k:Int)=x::xs/\xs.length+1=c.batch:=by
 have a:Yn A (k:Int)=(match A.cM[k]? with
  | some t=>t.bs.getLast?.getD []
  | none=>[]):=by unfold Yn;rw[zC h0,dE];rfl
 unfold ZV at h0;rw[dE]at h0;split at h0
 ·split at h0
  ·rename_i t ht;split at h0
   ·cases h0
   ·rename_i hb;rw[ht]at a;simp only at a;have j:t.bs.getLast?=some (t.bs.getLast hb):=List.getLast?_eq_some_getLast hb;rw[j]at a;simp only[py]at a;have:=h.oO k c t hc ht _ (List.getLast_mem hb);rw[←a]at this;have i:=h.cD;cases hx:Yn A (k:Int)with
    | nil=>
     rw[hx]at this;have d:k<A.tb.length:=(cW.1 hc).1;obtain⟨g,m,_,b,_⟩:=h.cl d;have e:g=c:=Option.some.inj (b.1.symm.trans hc);have:=(h.cD k g m b).ok;unfold bZ.ok at this;simp at *;subst e;omega
    | cons x xs=>exact⟨x,xs,rfl,by rw[hx]at this;simpa using this⟩
  ·cases h0
 ·cases h0
theorem MS (h:HI H held s0)(hg:H.bQ[t]?=some g){w:Nat}(hph:g.ph=some (.cH k w)){cl sz:Int}(hr:Rq H.tb g (.cH k w) cl sz):iw H t (.cH k w)/\tE H t (.cH k w) cl sz:=by
 have C:=(cW.1 hg).1;have d:=h.th g (h.mem hg);obtain⟨F,B,p,N⟩:g.bP=[]/\k<H.tb.length/\(g.li k).os=[]/\1<=w/\w<=32:=by have:=d.ph;unfold ij at this;rw[hph]at this;exact this
 obtain⟨rfl,c,i,rfl⟩:=hr;have K:=h.ok c (zG i);have m:=K;unfold bZ.ok at m;have A:=h.dZ t;have ga:=h.wi.ga _ _ A;have z:(H.dZ t).tb[k]?=some c:=by rw[h.wi.tb _ _ A];exact i
 have M:tN H t (.cH k w):=⟨B,λD=>by
  obtain⟨x,u,e,_⟩:=HP ga D z;rw[e];simp⟩
 by_cases hcase:w=c.batch/\ZV (H.dZ t) (k:Int)=0
 ·obtain⟨rfl,D⟩:=hcase;obtain⟨x,u,L,R⟩:=HP ga D z;have r:Wt H t (.cH k c.batch)=({H.cC (H.own t) (Zu (H.dZ t) (k:Int))with bQ:=H.bQ.set t {g with bP:=[(k,x::u)]}},some .fill,0,0):=by
   simp only[Wt,VT i,zR,D,QF,L];rw[Zp (g:=g) (by exact hg),F];rfl
  have e:=ZR (H1:=H.cC (H.own t) (Zu (H.dZ t) (k:Int))) C r;obtain⟨V,P,S,W⟩:=IY h.wi A (j:=k);have wi:=h.wi.vn A (k:Int);have E:=h.fB hg (g':={g with bP:=[(k,x::u)],ph:=some .fill}) (live':=H.live) wi h.mP rfl (by simp[Wd.put]) W (λX y=>by
   rw[yU P (λy U=>V y U _) S,L];unfold gF;rw[hph,F];simp only[jy,Kw,Vm];omega) h.lk (λQ G=>.inl G) (λs a J=>by cases J) ⟨d.ll,d.lo,λb hb=>by
    simp only[zN]at hb;subst hb;exact⟨B,by simp,by simp;omega⟩,by simp,by
    unfold ij;exact⟨k,x,u,rfl,B,p,O⟩⟩
  refine⟨iw.mk' hg d.hl M e E (KS.refl _),.inl ?_⟩;rw[e,r];exact⟨_,_,rfl,rfl,zL C,⟨k,x::u,[],c,rfl,rfl,i,rfl⟩,by simp[og]⟩
 ·have r:Wt H t (.cH k w)=({H with bQ:=H.bQ.set t g},some (.cJ k w),0,0):=by
   have:H.bQ.set t g=H.bQ:=Z5 hg;rw[this];simp only[Wt,VT i];split
   ·split
    ·exact(hcase ⟨by assumption,by assumption⟩).elim
    ·rfl
   ·rfl
  have e:=ZR C r;have E:=h.kj hg (g':={g with ph:=some (.cJ k w)}) (live':=H.live) (λX x=>by
   unfold gF;rw[hph];simp only[jy]) h.lk (λQ G=>.inl G) (λs a J=>by cases J) ⟨d.ll,d.lo,d.hb,d.hl,by
    unfold ij;exact⟨F,B,p,N⟩⟩
  refine⟨iw.mk' hg d.hl M e E (KS.refl _),.inl ?_⟩;rw[e,r];refine⟨_,_,rfl,rfl,zL C,⟨rfl,c,i,rfl⟩,?_⟩;simp only[og];split<;>omega
theorem Ik (h:GA A)(j w:Nat):(X9 A (j:Int) (w:Int)).length<=w:=by
 unfold X9;split
 ·rename_i h0;have a:A.ck (j:Int)=true:=by
   unfold Qo at h0;split at h0
   ·assumption
   ·cases h0
  obtain⟨i,m,d⟩:=UY.1 a;obtain⟨c,e,t,b,g⟩:=h.cl d;have:i=j:=by omega
  subst this;unfold Vi;rw[dE,dE,b.1,b.2];exact(Hz w (h.cD i c e b)).2.2.1
 ·simp
theorem Mr (H:Hw)(t:Nat)(B:AR)(h:H.own t<H.bX.length)(sp:Sp)(bQ:List Th):Hw.dZ {H.cC (H.own t) B with sp:=sp,bQ:=bQ} t=B:=by
 refine AY ?_;have:Hw.own {H.cC (H.own t) B with sp:=sp,bQ:=bQ} t=H.own t:=by unfold Hw.own Hw.cC;simp
 rw[this];simp[Hw.cC,h]
theorem Ml (h:HI H held s0)(hg:H.bQ[t]?=some g){w:Nat}(hph:g.ph=some (.cJ k w)){cl sz:Int}(hr:Rq H.tb g (.cJ k w) cl sz):iw H t (.cJ k w)/\tE H t (.cJ k w) cl sz:=by
 have C:=(cW.1 hg).1;have d:=h.th g (h.mem hg);obtain⟨F,G,m,M⟩:g.bP=[]/\k<H.tb.length/\(g.li k).os=[]/\1<=w/\w<=32:=by have:=d.ph;unfold ij at this;rw[hph]at this;exact this
 obtain⟨rfl,c,L,rfl⟩:=hr;have K:=h.dZ t;have ga:=h.wi.ga _ _ K;have wi:=h.wi.from K (k:Int) (w:Int);have i:=Ik ga k w;have u:=(FG ga (k:Int) (w:Int)).2.2.1;cases hv:X9 (H.dZ t) (k:Int) (w:Int)with
 | nil=>
  have r:Wt H t (.cJ k w)=({H.cC (H.own t) (Ys (H.dZ t) (k:Int) (w:Int))with bQ:=H.bQ.set t g},some (.grow k w),0,0):=by
   have:H.bQ.set t g=H.bQ:=Z5 hg;rw[this];simp only[Wt,hv,zR,Hw.cC]
  have e:=ZR (H1:=H.cC (H.own t) (Ys (H.dZ t) (k:Int) (w:Int))) C r;rw[hv]at wi;simp only[qs,kX]at wi;have D:=h.fB hg (g':={g with ph:=some (.grow k w)}) (live':=H.live) wi h.mP rfl (by simp[Wd.put]) (λp j _=>.inl j) (λS y=>by
   unfold gF;rw[hph];simp only[jy]) h.lk (λN J=>.inl J) (λs a j=>by cases j) ⟨d.ll,d.lo,d.hb,d.hl,by
    unfold ij;exact⟨F,G,m,M⟩⟩
  refine⟨iw.mk' hg d.hl trivial e D (KS.refl _),.inl ?_⟩;rw[e,r];exact⟨_,_,rfl,rfl,zL C,⟨rfl,c,L,rfl⟩,by simp[og,hv]⟩
 | cons v vs=>
  have r:Wt H t (.cJ k w)=({H.cC (H.own t) (Ys (H.dZ t) (k:Int) (w:Int))with bQ:=H.bQ.set t {g with bP:=[(k,(v::vs).map λ(x:Nat)=>(x:Int))]}},some .fill,0,0):=by
   simp only[Wt,hv,QF];rw[zB aA,Zp (g:=g) (by exact hg),F];rfl
  have e:=ZR (H1:=H.cC (H.own t) (Ys (H.dZ t) (k:Int) (w:Int))) C r;rw[hv]at wi i u;have B:((v::vs).map λ(x:Nat)=>(x:Int)).Nodup:=List.Pairwise.map (R:=(· ≠ ·)) _ (λa b E e=>E O) u;have app:=CM (held:=held) (new:=(v::vs).map λy=>(⟨H.own t,(k:Int),y,oR H.tb (k:Int),false⟩:Pc)) (cl:=(k:Int)) (l:=(v::vs).map λ(x:Nat)=>(x:Int)) (λp j=>by
   obtain⟨y,A,rfl⟩:=zE.1 j;exact⟨rfl,rfl,zE.2 ⟨y,A,rfl⟩⟩) λx Q=>by
   obtain⟨y,A,rfl⟩:=zE.1 Q;exact⟨_,zE.2 ⟨y,A,rfl⟩,rfl⟩
  have new:=Ad wi;have D:=h.fB hg (g':={g with bP:=[(k,(v::vs).map λ(x:Nat)=>(x:Int))],ph:=some .fill}) (live':=H.live) wi h.mP rfl (by simp[Wd.put]) (Fi wi) (λS y=>by
   rw[yU B (λy A=>by
    obtain⟨z,P,rfl⟩:=zE.1 A;exact new ⟨H.own t,(k:Int),z,oR H.tb (k:Int),false⟩ (zE.2 ⟨z,P,rfl⟩) _) app]
   unfold gF;rw[hph,F];simp only[jy,Kw,Vm];omega) h.lk (λN J=>.inl J) (λs a j=>by cases j) ⟨d.ll,d.lo,λb hb=>by
    simp only[zN]at hb;subst hb;exact⟨G,by simp,by simp at i ⊢;omega⟩,by simp,by
    unfold ij;exact⟨k,(v:Int),vs.map λ(x:Nat)=>(x:Int),rfl,G,m,by simp at i ⊢;omega⟩⟩
  refine⟨iw.mk' hg d.hl trivial e D (KS.refl _),.inl ?_⟩;rw[e,r];refine⟨_,_,rfl,rfl,zL C,⟨k,_,[],c,rfl,rfl,L,rfl⟩,?_⟩;simp[og,hv]
theorem MV (h:HI H held s0)(hg:H.bQ[t]?=some g){w:Nat}(hph:g.ph=some (.grow k w)){cl sz:Int}(hr:Rq H.tb g (.grow k w) cl sz):iw H t (.grow k w)/\tE H t (.grow k w) cl sz:=by
 have B:=(cW.1 hg).1;have b:=h.th g (h.mem hg);obtain⟨E,F,x,C⟩:g.bP=[]/\k<H.tb.length/\(g.li k).os=[]/\1<=w/\w<=32:=by have:=b.ph;unfold ij at this;rw[hph]at this;exact this
 obtain⟨rfl,c,G,rfl⟩:=hr;have u:=h.dZ t;have ga:=h.wi.ga _ _ u;obtain⟨e1,e2,D,r⟩:=h.mP.cL (H.dZ t) (k:Int);have wi:=h.wi.grow u (k:Int);by_cases h0:KA (H.dZ t) H.sp (k:Int)=0
 ·have m:Wt H t (.grow k w)=({{H.cC (H.own t) (cL (H.dZ t) H.sp (k:Int)).1 with sp:=(cL (H.dZ t) H.sp (k:Int)).2}with bQ:=H.bQ.set t g},some (.cJ k w),0,0):=by
   have:H.bQ.set t g=H.bQ:=Z5 hg;rw[this];simp only[Wt,h0,zR,Hw.cC]
  have e:=ZR (H1:={H.cC (H.own t) (cL (H.dZ t) H.sp (k:Int)).1 with sp:=(cL (H.dZ t) H.sp (k:Int)).2}) B m;have d:=Ou ga (h.wi.ow _ _ u) (j:=k) (by rw[←e2];exact h0) C.1;rw[show(Wd.mk H.tb s0 H.bX held).sp=s0 from rfl,←e1]at d;rw[show(Wd.mk H.tb s0 H.bX held).sp=s0 from rfl,←e1]at wi;have z:=h.fB hg (g':={g with ph:=some (.cJ k w)}) (live':=H.live) wi D r.l (by simp[Wd.put]) (λp i _=>.inl i) (λK y=>by
   unfold gF;rw[hph];simp only[jy]) h.lk (λJ A=>.inl A) (λs a i=>by cases i) ⟨b.ll,b.lo,b.hb,b.hl,by
    unfold ij;exact⟨E,F,x,C⟩⟩
  refine⟨iw.mk' hg b.hl trivial e z r,.inl ?_⟩;rw[e,m];refine⟨_,_,rfl,rfl,zL B,⟨rfl,c,G,rfl⟩,?_⟩;have:=Mr H t (cL (H.dZ t) H.sp (k:Int)).1 (h.jK t) (cL (H.dZ t) H.sp (k:Int)).2 (H.bQ.set t {g with ph:=some (.cJ k w)});simp only[og];rw[this,zB d];omega
 ·have m:Wt H t (.grow k w)=({{H.cC (H.own t) (cL (H.dZ t) H.sp (k:Int)).1 with sp:=(cL (H.dZ t) H.sp (k:Int)).2}with bQ:=H.bQ.set t g},none,0,KA (H.dZ t) H.sp (k:Int)):=by
   have:H.bQ.set t g=H.bQ:=Z5 hg;rw[this];simp only[Wt,h0,zz,Hw.cC]
  have e:=ZR (H1:={H.cC (H.own t) (cL (H.dZ t) H.sp (k:Int)).1 with sp:=(cL (H.dZ t) H.sp (k:Int)).2}) B m;rw[show(Wd.mk H.tb s0 H.bX held).sp=s0 from rfl,←e1]at wi;have z:=h.fB hg (g':={g with ph:=none}) (live':=H.live) wi D r.l (by simp[Wd.put]) (λp i _=>.inl i) (λK y=>by
   unfold gF;rw[hph];simp only[jy]) h.lk (λJ A=>.inl A) (λs a i=>by cases i) ⟨b.ll,b.lo,b.hb,b.hl,by
    unfold ij;exact E⟩
  refine⟨iw.mk' hg b.hl trivial e z r,.inr (.inl ?_)⟩;rw[e,m];exact⟨rfl,h0,rfl,rfl⟩
theorem JV (h:HI H held s0)(hg:H.bQ[t]?=some g)(hph:g.ph=some .fill){cl sz:Int}(hr:Rq H.tb g .fill cl sz):iw H t .fill/\tE H t .fill cl sz:=by
 have S:=(cW.1 hg).1;have j:=h.th g (h.mem hg);obtain⟨k,x,xs,z,J,d,Q⟩:∃k x xs,g.bP=[(k,x::xs)]/\k<H.tb.length/\(g.li k).os=[]/\xs.length<=128:=by have:=j.ph;unfold ij at this;rw[hph]at this;exact this
 obtain⟨k',W,r,c,A,rfl,K,rfl⟩:=hr;rw[z]at A;obtain⟨i, -⟩:=List.cons.inj A;obtain rfl:k=k':=congrArg Prod.fst i;obtain⟨l,hl,u,C,P⟩:=j.li J;have p:=HV hg;rw[u]at d;have m:(eC xs.reverse l).os=xs.reverse:=by unfold eC;rw[d,zB aE];simp
 have F:Wt H t .fill=({{H with live:=dB H.live x (x,(c.size:Int),(k:Int),XO H.bX x)}with bQ:=H.bQ.set t {ls:=g.ls.set k (eC xs.reverse l),bP:=[],ph:=g.ph}},none,x,0):=by
  simp only[Wt,p,z,VT K,Vk,Zp hg,u]
 have e:=ZR S F;have w:1<=gF g (k:Int) x:=by
  unfold gF;rw[z,Kw,zC rfl];have:1<=(x::xs).count x:=Al.2 aA;simp only;omega
 have G:=h.qA (h.mem hg) w;have E:=h.lE (h.mem hg) w;obtain⟨N,L⟩:=j.gH (k:=k) (ya (xs:=xs.reverse) C) (by rw[m];simp;omega);have M:=h.kj hg (g':={ls:=g.ls.set k (eC xs.reverse l),bP:=[],ph:=none}) (live':=dB H.live x (x,(c.size:Int),(k:Int),XO H.bX x)) (λk' y=>by
  rw[Ai _ E];have B:=Gq hl (eC xs.reverse l) k' y;rw[d,m,List.count_reverse,List.count_nil]at B;have V:(x::xs).count y=[x].count y+xs.count y:=uQ (l₁:=[x]) (l₂:=xs);unfold gF;rw[hph,z];simp only[jy,Kw,Vm];by_cases i:(k:Int)=k'
  ·simp only[i,zR]at B ⊢;omega
  ·simp only[i,zz]at B ⊢;omega)
  (Go.Vc.gP h.lk) (λX D=>by
   rcases(Gi E).1 D with D|rfl
   ·exact .inl D
   ·exact .inr (h.vC G K))
  (λs a R=>by cases R) ⟨N,L,λb U=>by simp at U,by simp,by unfold ij;rfl⟩
 refine⟨iw.mk' hg j.hl ⟨k,x,xs,[],by rw[p];exact z,J,(h.i63 G).1,by rw[p,u,d];simp;omega⟩ e M (KS.refl _),.inr (.inr ?_)⟩;rw[e,F];exact⟨rfl,rfl,E,rfl⟩
theorem Rh (h:HI H held s0)(hg:H.bQ[t]?=some g){m:Nat}(hph:g.ph=some (.eD m)){cl sz:Int}(hr:Rq H.tb g (.eD m) cl sz):iw H t (.eD m)/\tE H t (.eD m) cl sz:=by
 have P:=(cW.1 hg).1;have b:=h.th g (h.mem hg);obtain⟨L,U,Q⟩:g.bP=[]/\1<=m/\m<=64:=by have:=b.ph;unfold ij at this;rw[hph]at this;exact this
 obtain⟨rfl,rfl⟩:=hr;have K:=h.dZ t;have ga:=h.wi.ga _ _ K;obtain⟨e1,e2,W,M,C⟩:=h.mP.cA (H.dZ t) (m:Int) 1;have wi:=h.wi.uU K (m:Int) 1;rw[show(Wd.mk H.tb s0 H.bX held).sp=s0 from rfl,←e1,←e2,←W]at wi;by_cases h0:Qh (H.dZ t) H.sp (m:Int) 1=0
 ·rw[zC h0]at wi;have j:=Ad wi;have u:=CM (held:=held) (new:=[(⟨H.own t, -1,ZT (H.dZ t) H.sp (m:Int) 1*256,(m:Int).toNat*256,false⟩:Pc)]) (cl:=-1) (l:=[((ZT (H.dZ t) H.sp (m:Int) 1*256:Nat):Int)]) (λp d=>by
   simp only[zN]at d;subst d;exact⟨rfl,rfl,by simp⟩) λx D=>by
   simp only[zN]at D;subst D;exact⟨_,zN.2 rfl,rfl⟩
  have i:(⟨H.own t, -1,ZT (H.dZ t) H.sp (m:Int) 1*256,(m:Int).toNat*256,false⟩:Pc)∈held++[(⟨H.own t, -1,ZT (H.dZ t) H.sp (m:Int) 1*256,(m:Int).toNat*256,false⟩:Pc)]:=by simp
  have G:=wi.size_pos i;have z:=wi.jE i;have F:=wi.owner i (x:=ZT (H.dZ t) H.sp (m:Int) 1*256) (zD _) (by simp only at G ⊢;omega);generalize B:ZT (H.dZ t) H.sp (m:Int) 1=V at *;have r:bV H.live ((V*256:Nat):Int)=none:=h.r8 λJ S=>j _ (zN.2 rfl) J S;have w:Wt H t (.eD m)=({{H.cC (H.own t) (cA (H.dZ t) H.sp (m:Int) 1).1 with sp:=(cA (H.dZ t) H.sp (m:Int) 1).2,live:=dB H.live ((V*256:Nat):Int) (((V*256:Nat):Int),((m*256:Nat):Int), -1,XO (H.bX.set (H.own t) (cA (H.dZ t) H.sp (m:Int) 1).1) ((V*256:Nat):Int))}with bQ:=H.bQ.set t g},none,((V*256:Nat):Int),0):=by
   have:H.bQ.set t g=H.bQ:=Z5 hg;rw[this];simp only[Wt,h0,zR,Hw.cC,Vk,B]
  have e:=ZR (H1:={H.cC (H.own t) (cA (H.dZ t) H.sp (m:Int) 1).1 with sp:=(cA (H.dZ t) H.sp (m:Int) 1).2,live:=dB H.live ((V*256:Nat):Int) (((V*256:Nat):Int),((m*256:Nat):Int), -1,XO (H.bX.set (H.own t) (cA (H.dZ t) H.sp (m:Int) 1).1) ((V*256:Nat):Int))}) P w;have E:=h.fB hg (g':={g with ph:=none}) (live':=dB H.live ((V*256:Nat):Int) (((V*256:Nat):Int),((m*256:Nat):Int), -1,XO (H.bX.set (H.own t) (cA (H.dZ t) H.sp (m:Int) 1).1) ((V*256:Nat):Int))) wi M C.l (by simp[Wd.put]) (Fi wi) (λJ y=>by
   rw[Ai _ r,yU (l:=[((V*256:Nat):Int)]) (cl:=-1) aA (λy N=>by
    simp only[zN]at N;subst N;exact j _ (zN.2 rfl) _) u]
   unfold gF;rw[hph];simp only[jy];omega) (Go.Vc.gP h.lk) (λR A=>by
    rcases(Gi r).1 A with A|rfl
    ·exact .inl A
    ·refine .inr ⟨rfl,_,i,rfl,rfl,rfl,?_,?_⟩
     ·simp
     ·exact F) (λs a d=>by cases d) ⟨b.ll,b.lo,b.hb,b.hl,by
    unfold ij;exact L⟩
  refine⟨iw.mk' hg b.hl ?_ e E C,.inr (.inr ?_)⟩
  ·show ZT (H.dZ t) H.sp (m:Int) 1<=1000000;rw[B];simp only at z;omega
  ·rw[e,w];exact⟨rfl,rfl,r,rfl⟩
 ·rw[zB h0]at wi;have B:ZT (H.dZ t) H.sp (m:Int) 1=0:=by
   unfold Qh at h0;unfold ZT;split
   ·rename_i d;rw[d,zC rfl]at h0;split at h0
    ·exact(h0 rfl).elim
    ·rename_i hn;cases D:(cZ (H.dZ t) H.sp (m:Int).toNat (1:Int).toNat 41).1 with
     | none=>rfl
     | some y=>rw[D]at hn;simp at hn
   ·rfl
  have w:Wt H t (.eD m)=({{H.cC (H.own t) (cA (H.dZ t) H.sp (m:Int) 1).1 with sp:=(cA (H.dZ t) H.sp (m:Int) 1).2}with bQ:=H.bQ.set t g},none,0,Qh (H.dZ t) H.sp (m:Int) 1):=by
   have:H.bQ.set t g=H.bQ:=Z5 hg;rw[this];simp only[Wt,h0,zz,Hw.cC]
  have e:=ZR (H1:={H.cC (H.own t) (cA (H.dZ t) H.sp (m:Int) 1).1 with sp:=(cA (H.dZ t) H.sp (m:Int) 1).2}) P w;have E:=h.fB hg (g':={g with ph:=none}) (live':=H.live) wi M C.l (by simp[Wd.put]) (λp d _=>.inl d) (λJ y=>by
   unfold gF;rw[hph];simp only[jy]) h.lk (λR A=>.inl A) (λs a d=>by cases d) ⟨b.ll,b.lo,b.hb,b.hl,by
    unfold ij;exact L⟩
  refine⟨iw.mk' hg b.hl ?_ e E C,.inr (.inl ?_)⟩
  ·show ZT (H.dZ t) H.sp (m:Int) 1<=1000000;rw[B];omega
  ·rw[e,w];exact⟨rfl,h0,rfl,rfl⟩
theorem NV {W:Wd}(h:WI W)(hk:W.bX[k]?=some A){j:Nat}{l:List Int}(hl:∀x∈l,∃p∈W.held,lI k (j:Int) x p=true)(hn:l.Nodup)(hj:j<W.tb.length):QH A (j:Int) l=0/\WI (W.put k (Zr A (j:Int) l) W.sp (W.held.filter λp=>!dV k (j:Int) l p)):=by
 have ga:=h.ga k A hk;have d:jg W.held k (j:Int) l=true:=Ko.2 ⟨hl,hn⟩;obtain⟨c,y,_,e,_⟩:=ga.cl (k:=j) (by rw[h.tb k A hk];exact hj);have g:QH A (j:Int) l=0:=by
  rw[HJ ga e];refine FD ⟨λx i=>?_,hn⟩;obtain⟨p,m,b⟩:=hl x i;obtain⟨s,r,u,w⟩:=Kt.1 b;obtain⟨_,_,_,a,_⟩:=h.cls m r (by rw[s];exact hk);rw[u]at a;exact(KV e).1 a
 refine⟨g,?_⟩;have:=h.Ot hk d;rw[zC g,h.xz d]at this;exact this
theorem Ci {xs:List Int}{tb:List bZ}{ars0:List AR}(hH:H.tb=tb)(h:WI ⟨tb,s0,H.bX,held⟩)(hk:k<tb.length)(hxs:∀x∈xs,Um held (k:Int) x)(hn:xs.Nodup)(ha:∀p∈held,XO ars0 (p.addr:Int)=(p.k:Int)):∀j,j<=H.bX.length →
 ∃ars',KN H k (ZC ars0 xs) (List.range j) = {H with bX:=ars'}/\ars'.length=H.bX.length/\WI ⟨tb,s0,ars',held.filter λp=>!(decide (p.k<j)&&(p.cls==(k:Int)&&xs.contains (p.addr:Int)))⟩
 | 0,_=>by
  refine⟨H.bX,rfl,rfl,?_⟩;have:(held.filter λp=>!(decide (p.k<0)&&(p.cls==(k:Int)&&xs.contains (p.addr:Int))))=held:=pf.2 λp _=>by simp
  rw[this];exact h
 | j+1,hj=>by
  obtain⟨ars',e,u,s⟩:=Ci hH h hk hxs hn ha j O;rw[KU,e];have r:ars'[j]?=some (ars'[j]' O):=cV _;simp only[r];have b:∀{p:Pc},p∈held->p.k=j->((p.addr:Int)∈ZC ars0 xs j↔(p.addr:Int)∈xs):=λ{p} d a=>by
   unfold ZC;rw[zI,ha p d,a];simp
  have g:((held.filter λp=>!(decide (p.k<j)&&(p.cls==(k:Int)&&xs.contains (p.addr:Int)))).filter λp=>!dV j (k:Int) (ZC ars0 xs j) p)=held.filter λp=>!(decide (p.k<j+1)&&(p.cls==(k:Int)&&xs.contains (p.addr:Int))):=by
   rw[yO];apply vI;intro p d;have e1:dV j (k:Int) (ZC ars0 xs j) p=(p.k==j&&(p.cls==(k:Int)&&xs.contains (p.addr:Int))):=by
    unfold dV;by_cases a:p.k=j
    ·have:=b d a;have e2:(ZC ars0 xs j).contains (p.addr:Int)=xs.contains (p.addr:Int):=by
      rw[lQ,wV,wV];exact this
     rw[e2]
    ·have:(p.k==j)=false:=by simpa using a
     rw[this];rfl
   rw[e1];have B:decide (p.k<j+1)=(decide (p.k<j)||p.k==j):=by
    rw[lQ];simp;omega
   rw[B];cases p.k==j<;>cases decide (p.k<j)<;>cases(p.cls==(k:Int)&&xs.contains (p.addr:Int))<;>rfl
  by_cases d:ZC ars0 xs j=[]
  ·rw[zC d];refine⟨ars',rfl,u,?_⟩;rw[←g,d];have:∀p:Pc,(!dV j (k:Int) [] p)=true:=λp=>by simp[dV]
   rw[pf.2 λp _=>this p];exact s
  ·rw[zB d];refine⟨ars'.set j (Zr (ars'[j]' O) (k:Int) (ZC ars0 xs j)),by simp[Hw.cC],by simp[u],?_⟩;rw[←g];refine(NV s r (j:=k) (l:=ZC ars0 xs j) (λx w=>?_) (hn.sublist rW) hk).2;unfold ZC at w;obtain⟨m,i⟩:=zI.1 w;obtain⟨p,d,z,A,y⟩:=hxs x m;have a:p.k=j:=by
    have:=ha p d;rw[y]at this;rw[this]at i;have:(p.k:Int)=(j:Int):=by simpa using i
    omega
   exact⟨p,zI.2 ⟨d,by simp[a]⟩,Kt.2 ⟨a,A,y,z⟩⟩
theorem NM {tb:List bZ}(hH:H.tb=tb)(h:WI ⟨tb,s0,H.bX,held⟩){own:Nat}(hown:own<H.bX.length)(hk:k<tb.length){xs:List Int}(hxs:∀x∈xs,Um held (k:Int) x)(hn:xs.Nodup) :
 ∃ars' held',Hr H own k xs = {H with bX:=ars'}/\ars'.length=H.bX.length/\WI ⟨tb,s0,ars',held'⟩/\(∀c x,Um held' c x↔Um held c x/\¬(c=(k:Int)/\x∈xs))/\∀p∈held',p.eJ=false->p∈held:=by
 have m:H.bX[own]?=some H.bX[own]:=cV hown;have y:∀p∈held,XO H.bX (p.addr:Int)=(p.k:Int):=λp a=>h.owner a (zD _) (by have:=(h.size_pos a).1;omega);have all:∃ars' held',KN H k (ZC H.bX xs) (List.range H.bX.length) = {H with bX:=ars'}/\ars'.length=H.bX.length/\WI ⟨tb,s0,ars',held'⟩/\(∀c x,Um held' c x↔Um held c x/\¬(c=(k:Int)/\x∈xs))/\∀p∈held',p.eJ=false->p∈held:=by
  obtain⟨ars',e,s,j⟩:=Ci hH h hk hxs hn y H.bX.length (zD _);refine⟨ars',_,e,s,j,λc x=>?_,λp a _=>(zI.1 a).1⟩;constructor
  ·rintro⟨p,a,g,i,d⟩;obtain⟨a,hf⟩:=zI.1 a;refine⟨⟨p,a,g,i,d⟩,?_⟩;rintro⟨rfl,b⟩;obtain⟨B,C,_⟩:=h.hf p a;have u:p.k<H.bX.length:=(cW.1 C).1;rw[i,d]at hf;simp[u,b]at hf
  ·rintro⟨⟨p,a,g,i,d⟩,hno⟩;refine⟨p,zI.2 ⟨a,?_⟩,g,i,d⟩;rw[i,d];by_cases hc:c=(k:Int)
   ·have:x∉xs:=λb=>hno ⟨hc,b⟩;simp[this]
   ·simp[hc]
 unfold Hr;rw[m];simp only;by_cases hcond:(ZC H.bX xs own).length=xs.length/\KW H.bX[own] (k:Int) xs=true
 ·rw[zC hcond];have r:∀x∈xs,XO H.bX x=(own:Int):=by
   have g:ZC H.bX xs own=xs:=by
    unfold ZC at hcond ⊢;exact List.filter_sublist.eq_of_length hcond.1
   intro x b;rw[←g]at b;unfold ZC at b;simpa using(zI.1 b).2
  have w:jg held own (k:Int) xs=true:=Ko.2 ⟨λx b=>by
   obtain⟨p,a,g,i,d⟩:=hxs x b;have A:=y p a;rw[d,r x b]at A;exact⟨p,a,Kt.2 ⟨O,i,d,g⟩⟩,hn⟩
  have j:=h.Og m w;rw[zC hcond.2]at j;exact⟨_,_,rfl,by simp[Hw.cC],j,Oy h w,NF⟩
 ·rw[zB hcond];have e:(if(ZC H.bX xs own).length=xs.length then H.cC own (QT H.bX[own] (k:Int) xs)else H)=H:=by
   split
   ·rename_i s;have z:KW H.bX[own] (k:Int) xs=false:=by
     apply nh.2;intro b;exact hcond ⟨s,b⟩
    have:QT H.bX[own] (k:Int) xs=H.bX[own]:=by unfold QT;rw[z];rfl
    rw[this];exact DV m
   ·rfl
  rw[e];exact all
def k5:Ph->Prop
 | .find _=>True
 | .put _ _=>True
 | .back=>True
 | .dC _ _=>True
 | .drain=>True
 | _=>False
def pc (g:Th):Ph->Nat
 | .find _=>101
 | .put _ _=>100
 | .drain=>100
 | .back=>g.bP.length
 | _=>0
def nq (H:Hw)(t:Nat)(g:Th)(p:Ph):Prop:=(Wt H t p).2.2.1=0 ∧
 ((∃p' g',(Wt H t p).2.1=some p'/\k5 p'/\(∀x,p'≠.find x)/\(Qq H t p).bQ[t]?=some g'/\pc g' p'<pc g p)\/(Wt H t p).2.1=none) ∧
 ((∀x,p≠.find x)->(Wt H t p).2.2.2=0/\(Qq H t p).live=H.live) ∧
 (∀x,p=.find x->(bV H.live x=none->(Wt H t p).2.1=none/\(Wt H t p).2.2.2≠0/\(Qq H t p).live=H.live)/\(∀b,bV H.live x=some b->(Wt H t p).2.2.2=0/\(Qq H t p).live=cT H.live x))
theorem Bo (hg:H.bQ[t]?=some g):jJ H t=if g.bP=[]then none else some .back:=by unfold jJ;rw[hg]
theorem IU (h:HI H held s0)(hg:H.bQ[t]?=some g){x:Int}(hph:g.ph=some (.find x)):iw H t (.find x)/\nq H t g (.find x):=by
 have L:=(cW.1 hg).1;have d:=h.th g (h.mem hg);obtain⟨N,C⟩:g.bP=[]/\iD x:=by have:=d.ph;unfold ij at this;rw[hph]at this;exact this
 have R:∀A∈H.bX,iI A:=λA Q=>by
  obtain⟨j,hj⟩:=zQ Q;exact(h.wi.ga j A hj).nT
 cases hm:bV H.live x with
 | none=>
  have w:Wt H t (.find x)=({H with bQ:=H.bQ.set t g},none,0,lJ H x):=by
   have:H.bQ.set t g=H.bQ:=Z5 hg;rw[this];simp only[Wt,UJ,hm]
  have e:=ZR L w;have D:=h.kj hg (g':={g with ph:=none}) (live':=H.live) (λM x=>by
   unfold gF;rw[hph];simp only[jy]) h.lk (λX J=>.inl J) (λs a P=>by cases P) ⟨d.ll,d.lo,d.hb,d.hl,by
    unfold ij;exact N⟩
  refine⟨iw.mk' hg d.hl ⟨C,λ_=>R,λb hb=>by rw[hm]at hb;cases hb⟩ e D (KS.refl _),?_⟩;unfold nq;rw[e,w];refine⟨rfl,.inr rfl,λi=>(i x rfl).elim,λy m=>?_⟩;cases m;refine⟨λ_=>⟨rfl,?_,rfl⟩,(λb hb=>by rw[hm]at hb;cases hb)⟩;show lJ H x≠0;unfold lJ
  repeat' split
  all_goals simp
 | some b=>
  have V:=Vh hm;obtain⟨_,p,P,h1,S,Y,h4,Z⟩:=h.lv _ V;simp only at S Y h4 Z;have U:0<=x:=by omega
  obtain⟨A,Q,hd⟩:=h.wi.hf p P;have W:tN H t (.find x):=⟨C,(λi=>by rw[hm]at i;cases i),λ_ _=>U⟩;rcases hd with⟨c1,_,r,hr,c2,c3⟩|⟨j,c,c1,c2,c3,_⟩
  ·have E:b.2.2.1 = -1:=by rw[←S,c1]
   have w:Wt H t (.find x)=({{H with live:=cT H.live x}with bQ:=H.bQ.set t g},some (.dC (x/256) b.2.2.2),0,0):=by
    have:H.bQ.set t g=H.bQ:=Z5 hg;rw[this];simp only[Wt,UJ,hm];rw[zC O]
   have e:=ZR (H1:={H with live:=cT H.live x}) L w;have u:x/256*256=x:=by omega
   have D:=h.kj hg (g':={g with ph:=some (.dC (x/256) b.2.2.2)}) (live':=cT H.live x) (λM y=>by
    have z:=B0 h.lk hm M y;rw[E]at z;unfold gF;rw[hph];simp only[jy,u];by_cases m:x=y
    ·subst m;rw[Br]at z;by_cases hk : -1=M
     ·rw[zC hk]at z;rw[zC ⟨hk.symm,rfl⟩];omega
     ·rw[zB hk]at z;rw[zB (λC=>hk C.1.symm)];omega
    ·have:[x].count y=0:=xw.2 aE;rw[this]at z;rw[zB (λC=>m C.2.symm)];split at z<;>omega)
    (Go.Vc.jd h.lk) (λX J=>.inl (Gr.1 J).1) (λs a B=>by
     cases B;exact⟨p,P,h1,c1,by rw[u];exact Y,Z⟩) ⟨d.ll,d.lo,d.hb,d.hl,by
      unfold ij;exact N⟩
   refine⟨iw.mk' hg d.hl W e D (KS.refl _),?_⟩;unfold nq;rw[e,w];refine⟨rfl,.inl ⟨_,_,rfl,trivial,(λy m=>by cases m),zL L,by simp[pc]⟩,λi=>(i x rfl).elim,λy m=>?_⟩;cases m;exact⟨(λi=>by rw[hm]at i;cases i),λ_ _=>⟨rfl,rfl⟩⟩
  ·have F:b.2.2.1=(j:Int):=by rw[←S,c1]
   have K:j<H.tb.length:=by
    rw[h.wi.tb _ _ Q]at c2;exact(cW.1 c2).1
   have w:Wt H t (.find x)=({{H with live:=cT H.live x}with bQ:=H.bQ.set t {g with bP:=[(j,[x])]}},some (.put j x),0,0):=by
    simp only[Wt,UJ,hm];rw[zB O,F,dE];unfold QF;rw[Zp (g:=g) (by exact hg),N];rfl
   have e:=ZR (H1:={H with live:=cT H.live x}) L w;have D:=h.kj hg (g':={g with bP:=[(j,[x])],ph:=some (.put j x)}) (live':=cT H.live x) (λM y=>by
    have z:=B0 h.lk hm M y;rw[F]at z;unfold gF;rw[hph,N];simp only[jy,Kw,Vm];omega)
    (Go.Vc.jd h.lk) (λX J=>.inl (Gr.1 J).1) (λs a B=>by cases B) ⟨d.ll,d.lo,λb' G=>by
     simp only[zN]at G;subst G;exact⟨K,by simp,by simp⟩,by simp,by
     unfold ij;exact⟨rfl,K⟩⟩
   refine⟨iw.mk' hg d.hl W e D (KS.refl _),?_⟩;unfold nq;rw[e,w];refine⟨rfl,.inl ⟨_,_,rfl,trivial,(λy m=>by cases m),zL L,by simp[pc]⟩,λi=>(i x rfl).elim,λy m=>?_⟩;cases m;exact⟨(λi=>by rw[hm]at i;cases i),λ_ _=>⟨rfl,rfl⟩⟩
theorem DG {f:bZ->Li->List Int×Li}{tb:List bZ}{ls:List Li}{b:Bt}(h:b∈QW f tb ls):b.1<tb.length/\b.2≠[]/\∃c∈tb,∃l∈ls,b.2=(f c l).1:=by
 unfold QW at h;obtain⟨k,d,a⟩:=wN.1 h;split at a
 ·rename_i c l hc hl;split at a
  ·cases a
  ·cases a;exact⟨zg.1 d,by assumption,c,zG hc,l,zG hl,rfl⟩
 ·cases a
theorem Eu {f:bZ->Li->List Int×Li}{tb:List bZ}{ls:List Li}{l':Li}(h:l'∈QR f tb ls):∃c∈tb,∃l∈ls,l'=(f c l).2:=by
 unfold QR at h;obtain⟨i,a⟩:=zQ h;rw[yJ]at a;split at a
 ·rename_i c l hc hl;cases a;exact⟨c,zG hc,l,zG hl,rfl⟩
 ·cases a
theorem DB {f:bZ->Li->List Int×Li}{tb:List bZ}{ls:List Li}(h:ls.length=tb.length):(QR f tb ls).length=tb.length:=by
 unfold QR;rw[List.length_zipWith];omega
theorem CR (c:bZ)(l:Li):(KC c l).2.os.length<=l.os.length/\(KC c l).1.length<=l.os.length:=by
 simp only[KC,fZ,j2,zZ];omega
theorem DX (c:bZ)(l:Li):(ZD c l).2.os.length<=l.os.length/\(ZD c l).1.length<=l.os.length:=by
 simp only[ZD,fZ,j2,zZ];omega
theorem NT (h:HI H held s0)(hg:H.bQ[t]?=some g)(hph:g.ph=some .drain):iw H t .drain/\nq H t g .drain:=by
 have p:=(cW.1 hg).1;have d:=h.th g (h.mem hg);have B:g.bP=[]:=by have:=d.ph;unfold ij at this;rw[hph]at this;exact this
 have D:=h.qn;have w:=AW ZD H.tb g.ls;have r:Wt H t .drain=({H with bQ:=H.bQ.set t {g with ls:=QR ZD H.tb g.ls,bP:=QW ZD H.tb g.ls}},(if QW ZD H.tb g.ls=[]then none else some .back),0,0):=by
  simp only[Wt,Zp hg];rw[Bo (g:={g with ls:=QR ZD H.tb g.ls,bP:=QW ZD H.tb g.ls}) (by simp[p])]
 have e:=ZR p r;have A:=h.kj hg (g':={ls:=QR ZD H.tb g.ls,bP:=QW ZD H.tb g.ls,ph:=if QW ZD H.tb g.ls=[]then none else some .back}) (live':=H.live) (λu x=>by
  have L:=Dd (f:=ZD) Io d.ll u x;unfold gF;rw[hph,B];have:jy (if QW ZD H.tb g.ls=[]then none else some Ph.back) u x=0:=by split<;>rfl
  simp only[this,Vm];simp only[jy];omega) h.lk (λM E=>.inl E) (λs a m=>by
   simp only at m;split at m<;>cases m) ⟨DB d.ll,λl hl=>by
   obtain⟨c,_,j,i,rfl⟩:=Eu hl;have:=d.lo j i;have:=DX c j;exact⟨LA (d.lo j i).1,O⟩,λb K=>by
   obtain⟨F,z,c,_,j,i,C⟩:=DG K;have:=d.lo j i;have:=DX c j;exact⟨F,z,by rw[C];omega⟩,by simp only;omega,by
   unfold ij;by_cases ho:QW ZD H.tb g.ls=[]
   ·rw[zC ho];exact ho
   ·rw[zB ho];exact ho⟩
 refine⟨iw.mk' hg d.hl trivial e A (KS.refl _),?_⟩;unfold nq;rw[e,r];refine⟨rfl,?_,λ_=>⟨rfl,rfl⟩,λx G=>by cases G⟩;by_cases ho:QW ZD H.tb g.ls=[]
 ·exact .inr (by simp only;rw[zC ho])
 ·exact .inl ⟨.back,_,by simp only;rw[zB ho],trivial,(λy J=>by cases J),zL p,by simp only[pc];omega⟩
theorem MO (h:HI H held s0)(hg:H.bQ[t]?=some g){s a:Int}(hph:g.ph=some (.dC s a)):iw H t (.dC s a)/\nq H t g (.dC s a):=by
 have U:=(cW.1 hg).1;have b:=h.th g (h.mem hg);have N:g.bP=[]:=by have:=b.ph;unfold ij at this;rw[hph]at this;exact this
 obtain⟨p,C,W,M,Y,Z⟩:=h.gv g (h.mem hg) s a hph;obtain⟨A,m,_⟩:=h.wi.hf p C;have y:H.bX[p.k]?=some A:=m;have Q:=(cW.1 y).1;obtain⟨_,r,K,c2,c3⟩:=h.wi.run C M m;have ga:=h.wi.ga _ _ m;have d:s=(r.1:Int):=by omega
 have P:KG A s=0:=by
  unfold KG;rw[zC];unfold pB;rw[As];exact⟨r,K,by simp[d]⟩
 have D:jg held p.k (-1) [s*256]=true:=by rw[d];exact h.wi.mL m K
 have wi:=h.wi.vD m s;rw[zC P,h.wi.xz D]at wi;have z:a.toNat=p.k:=by omega
 have G:Wt H t (.dC s a)=({H.cC p.k (Qp A s)with bQ:=H.bQ.set t g},none,0,0):=by
  have:H.bQ.set t g=H.bQ:=Z5 hg;rw[this];simp only[Wt,z,y,Hw.cC]
 have e:=ZR (H1:=H.cC p.k (Qp A s)) U G;have L:=h.fB hg (g':={g with ph:=none}) (live':=H.live) wi h.mP rfl (by simp[Wd.put]) (λq E _=>.inl (zI.1 E).1) (λw x=>by
  have i:=B8 (held':=held.filter λF=>!dV p.k (-1) [s*256] F) (l:=[s*256]) (cl:=-1) aA (Mf D) (Ms h.wi D) w x;have i:kW held w x=kW (held.filter λF=>!dV p.k (-1) [s*256] F) w x+(if -1=w then[s*256].count x else 0):=i
  unfold gF;rw[hph];simp only[jy];by_cases hy:s*256=x
  ·subst hy;rw[Br]at i;by_cases hk : -1=w
   ·rw[zC hk]at i;rw[zC ⟨hk.symm,rfl⟩];omega
   ·rw[zB hk]at i;rw[zB (λu=>hk u.1.symm)];omega
  ·have:[s*256].count x=0:=xw.2 aE;rw[this]at i;rw[zB (λu=>hy u.2.symm)];split at i<;>omega) h.lk (λX R=>.inl R) (λs a C=>by cases C) ⟨b.ll,b.lo,b.hb,b.hl,by
   unfold ij;exact N⟩
 refine⟨iw.mk' hg b.hl ⟨O,O,λB V q E=>?_⟩ e L (KS.refl _),?_⟩
 ·obtain⟨j,S⟩:=zQ V;have J:=h.wi.ga j B S;have:=J.fit E;have:=J.pg.n2;omega
 ·unfold nq;rw[e,G];exact⟨rfl,.inr rfl,λ_=>⟨rfl,rfl⟩,λx u=>by cases u⟩
theorem Mb (h:HI H held s0)(hg:H.bQ[t]?=some g)(hph:g.ph=some .back):iw H t .back/\nq H t g .back:=by
 have G:=(cW.1 hg).1;have d:=h.th g (h.mem hg);have P:g.bP≠[]:=by have:=d.ph;unfold ij at this;rw[hph]at this;exact this
 have A:=HV hg;cases hhd:g.bP with
 | nil=>exact(P hhd).elim
 | cons b r=>
  obtain⟨k,C⟩:=b;obtain⟨K,w,E⟩:=d.hb (k,C) (by rw[hhd];simp);simp only at K w E;have j:∀x,C.count x<=gF g (k:Int) x:=λx=>by
   unfold gF;rw[hhd,Kw,zC rfl];simp only;omega
  have i:∀x∈C,Um held (k:Int) x:=λx u=>h.qA (h.mem hg) (zh (Al.2 u) (j x));have z:C.Nodup:=Ba.2 λx=>by
   have M:=j x;have V:=h.nU (h.mem hg) (k:Int) x;have X:=DY held (k:Int) x;omega
  obtain⟨m,D,U,F,wi,um,sub⟩:=NM (H:={H with bQ:=H.bQ.set t {g with bP:=r}}) (tb:=H.tb) rfl h.wi (h.jK t) K i z;have J:Wt H t .back=({{H with bX:=m}with bQ:=H.bQ.set t {g with bP:=r}},(if r=[]then none else some .back),0,0):=by
   simp only[Wt,A,hhd,Zp hg,U];rw[Bo (g:={g with bP:=r}) (by simp[G])]
  have e:=ZR (H1:={H with bX:=m}) G J;have N:=h.fB hg (g':={g with bP:=r,ph:=if r=[]then none else some .back}) (live':=H.live) wi h.mP rfl F (λp B S=>.inl (sub p B S)) (λL x=>by
   have M:=B8 z i um L x;unfold gF;rw[hph,hhd,Kw];have:jy (if r=[]then none else some Ph.back) L x=0:=by split<;>rfl
   simp only[this];simp only[jy];omega) h.lk (λW Q=>.inl Q) (λs a B=>by
    simp only at B;split at B<;>cases B) ⟨d.ll,d.lo,λb hb=>d.hb b (by rw[hhd];exact nu _ hb),by have:=d.hl;rw[hhd]at this;simp at this ⊢;omega,by
    unfold ij;by_cases ho:r=[]
    ·rw[zC ho];exact ho
    ·rw[zB ho];exact ho⟩
  refine⟨iw.mk' hg d.hl ⟨k,C,r,by rw[A];exact hhd,λx u=>⟨(h.i63 (i x u)).1,(h.i63 (i x u)).2.2⟩,O⟩ e N (KS.refl _),?_⟩;unfold nq;rw[e,J];refine⟨rfl,?_,λ_=>⟨rfl,rfl⟩,λx u=>by cases u⟩;by_cases ho:r=[]
  ·exact .inr (by simp only;rw[zC ho])
  ·exact .inl ⟨.back,_,by simp only;rw[zB ho],trivial,(λy R=>by cases R),zL G,by simp only[pc];rw[hhd];simp⟩
theorem Sf (h:HI H held s0)(hg:H.bQ[t]?=some g){x:Int}(hph:g.ph=some (.put k x)):iw H t (.put k x)/\nq H t g (.put k x):=by
 have B:=(cW.1 hg).1;have r:=h.th g (h.mem hg);obtain⟨J,L⟩:g.bP=[(k,[x])]/\k<H.tb.length:=by have:=r.ph;unfold ij at this;rw[hph]at this;exact this
 obtain⟨c,hc,G⟩:=h.cls L;obtain⟨l,hl,aa,E,hlm⟩:=r.li L;have F:=HV hg;have h40:=h.qn;have Q:=MT (x:=x) G E;have W:=Mn c x l O;have M:(dJ c x l).1.length<=129/\(dJ c x l).2.os.length<=128:=by
  have ab:=E.lim;have w:(eC [x] l).os=l.os++[x]:=by unfold eC;rw[zB aE]
  have R:(l9 c (eC [x] l)).os=l.os++[x]:=by rw[←w];unfold l9;split<;>rfl
  unfold bZ.ok at G;unfold dJ;rw[zB O];split
  ·rw[w];simp;omega
  ·simp only[fZ,R,zZ,j2,zO,BU];omega
 obtain⟨U,N⟩:=r.gH (k:=k) Q M.2;have X:∃hs:List Bt,(if(dJ c x l).1=[]then[]else[(k,(dJ c x l).1)])=hs:=⟨_,rfl⟩
 obtain⟨i,j⟩:=X;have ac:i.length<=1:=by rw[←j];split<;>simp
 have z:∀b∈i,b.1<H.tb.length/\b.2≠[]/\b.2.length<=256:=λb m=>by
  rw[←j]at m;split at m
  ·simp at m
  ·simp only[zN]at m;subst m;exact⟨L,by assumption,by simp only;omega⟩
 have D:∀d y,lh i d y=if(k:Int)=d then(dJ c x l).1.count y else 0:=λd y=>by
  rw[←j];split
  ·rename_i hn;rw[hn,Vm];simp
  ·simp only[Kw,Vm,j0]
 let g3:Th:={g with ls:=g.ls.set k (dJ c x l).2,bP:=i}
 let g4:Th:=if H.cf.dA<QN H.tb g3.ls then{g3 with ls:=QR KC H.tb g3.ls,bP:=g3.bP++QW KC H.tb g3.ls}else g3
 have S:ik H t k x = {H with bQ:=H.bQ.set t g4}:=by
  have e2:(if(dJ c x l).1=[]then H.dU t λh=>h.gH k (dJ c x l).2 else QF (H.dU t λh=>h.gH k (dJ c x l).2) t k (dJ c x l).1) = {H with bQ:=H.bQ.set t {g with ls:=g.ls.set k (dJ c x l).2,bP:=(k,[x])::i}}:=by
   rw[←j];split
   ·rw[Zp hg,←J];rfl
   ·rw[Zp hg];unfold QF;rw[Zp (g:=g.gH k (dJ c x l).2) (by simp[B])];simp only[nr,Th.gH,J];rfl
  have e3:({H with bQ:=H.bQ.set t {g with ls:=g.ls.set k (dJ c x l).2,bP:=(k,[x])::i}}:Hw).dU t (λh=>{h with bP:=h.bP.drop 1}) = {H with bQ:=H.bQ.set t g3}:=by
   rw[Zp (g:={g with ls:=g.ls.set k (dJ c x l).2,bP:=(k,[x])::i}) (by simp[B])];simp only[nr,xY,List.drop_zero];rfl
  have u:({H with bQ:=H.bQ.set t g3}:Hw).bQ[t]?=some g3:=by simp[B]
  unfold ik;simp only[VT hc,F,aa,e2,e3,HV u,Zp u,nr];show(if H.cf.dA<QN H.tb g3.ls then _ else _)=_
  simp only[g4];split<;>rfl
 have hg4:g4.ph=g.ph:=by simp only[g4];split<;>rfl
 have Y:∀d y,lg g4.ls d y+lh g4.bP d y=lg g.ls d y+lh g.bP d y:=λd y=>by
  have P:=Gq hl (dJ c x l).2 d y;have h2:=W y;have h3:lg g3.ls d y+lh g3.bP d y=lg g.ls d y+lh g.bP d y:=by
   simp only[g3];rw[D,J,Kw,Vm];by_cases hkk:(k:Int)=d
   ·simp only[hkk,zR]at P ⊢;omega
   ·simp only[hkk,zz]at P ⊢;omega
  simp only[g4];split
  ·have h4:=Dd (f:=KC) MA (tb:=H.tb) (ls:=g3.ls) U d y;simp only[Db];omega
  ·exact h3
 have p:g4.ls.length=H.tb.length/\(∀l∈g4.ls,fI l/\l.os.length<=128)/\(∀b∈g4.bP,b.1<H.tb.length/\b.2≠[]/\b.2.length<=256)/\g4.bP.length<=41:=by
  have hsl:=AW KC H.tb g3.ls;simp only[g4];split
  ·refine⟨DB U,λl hl=>?_,λb m=>?_,by simp only[zO,g3]at *;omega⟩
   ·obtain⟨K,V,C,A,rfl⟩:=Eu hl;have h5:=N C A;have:=CR K C;exact⟨B7 (h.ok K V) h5.1,O⟩
   ·rcases zK.1 m with m|m
    ·exact z b m
    ·obtain⟨b1,b2,K,_,C,A,b3⟩:=DG m;have h5:=N C A;have:=CR K C;exact⟨b1,b2,by rw[b3];omega⟩
  ·exact⟨U,N,z,by simp only[g3];omega⟩
 have hs:Wt H t (.put k x)=({H with bQ:=H.bQ.set t g4},(if g4.bP=[]then none else some .back),0,0):=by
  show(ik H t k x,jJ (ik H t k x) t,0,0)=_;rw[S,Bo (g:=g4) (by simp[B])]
 have e:=ZR B hs;have hi:=h.kj hg (g':={g4 with ph:=if g4.bP=[]then none else some .back}) (live':=H.live) (λd y=>by
  have P:=Y d y;unfold gF;rw[hph];have:jy (if g4.bP=[]then none else some Ph.back) d y=0:=by split<;>rfl
  simp only[this];simp only[jy];omega) h.lk (λe' he=>.inl he) (λs a Z=>by
   simp only at Z;split at Z<;>cases Z) ⟨p.1,p.2.1,p.2.2.1,p.2.2.2,by
   unfold ij;by_cases ho:g4.bP=[]
   ·simp only[ho,zR]
   ·simp only[ho,zz];exact ho⟩
 refine⟨iw.mk' hg r.hl ⟨L,by rw[F,J];simp⟩ e hi (KS.refl _),?_⟩;unfold nq;rw[e,hs];refine⟨rfl,?_,λ_=>⟨rfl,rfl⟩,λx hx=>by cases hx⟩;by_cases ho:g4.bP=[]
 ·exact .inr (by simp only;rw[zC ho])
 ·exact .inl ⟨.back,_,by simp only;rw[zB ho],trivial,(λy hy=>by cases hy),zL B,by simp only[pc];have:=p.2.2.2;omega⟩
end Go.Ar
namespace Go.Ar
open Go Go.Vc Go.Proofs
open Go.Bu (eW KK Uz)
variable {U u w w':Hp}{F B P Q:Rg}{L:dM}{H H':Hw}{t n:Nat}{g:Th}
def x8 (size:Int):Int:=(size+255)/256*256
def GC (tb:List bZ)(size align:Int):Int×Int:=
 if size<=16384/\Uw size align=true then(match gN tb size align with
  | some k=>((tb.getD k ⟨8,1,1⟩).size:Int)
  | none=>x8 size,0)else(0,1)
theorem O6 {a:Int}(h1:1<=a)(h2:a<=256):(bits .and .i64 a (a-1) != 0) = !eW a:=by
 obtain⟨a,rfl⟩:=za (show 0<=a by omega);rw[show(a:Int)-1=((a-1:Nat):Int) by omega,Go.Bu.iS O O,KK,←Uz O O];simp only[bne,Bool.not_inj_iff];rw[lQ];simp only[zT];omega
def QY (sp:Sp)(x:Int):Int:=if eP sp x=0 then sp.wd (x.toNat/8)else 0
theorem Fb (h:HH U F L H)(x:Int)(hx:x<=9223372036854775807){R:Int->Int->Hp->Prop}(hR:∀σ',bK U σ'->R (QY H.sp x) (eP H.sp x) σ'):YK.c (aW L.p) x U R:=M0 h x hx hR
end Go.Ar
namespace Go.Ar
open Go Go.Vc Go.Proofs
variable {U u w w':Hp}{F B P Q:Rg}{L:dM}{H H':Hw}{t n:Nat}{g:Th}
def Kg (H:Hw)(x:Int):Option Int:=(bV H.live x).map λb=>b.2.1
theorem CB {tb:List bZ}{size align:Int}{k:Nat}(h:gN tb size align=some k):k<tb.length:=(List.findIdx?_eq_some_iff_findIdx_eq.1 h).1
theorem F3 (h:HH U F L H)(x:Int){R:Int->Int->Hp->Prop}(hR:∀σ',bK U σ'->R ((Kg H x).getD 0) (if(Kg H x).isSome then 0 else 8) σ'):Xt.c (aW L.p) x U R:=by
 refine IE h x λσ' e=>?_;have:=hR σ' e;unfold Kg at this;cases hm:bV H.live x with
 | none=>rw[hm]at this;exact this
 | some b=>rw[hm]at this;exact this
end Go.Ar
namespace Go.Ar
open Go.Vc (bV dB cT)
variable {H H':Hw}{held:List Pc}{s0:Sp}{t k j:Nat}{g:Th}{A:AR}{c:bZ}
theorem Ks (f:Th->Th)(hj:j≠t):(H.dU t f).bQ[j]?=H.bQ[j]? := by
 simp[Hw.dU,tz,Ne.symm hj]
theorem R4 (x:Int)(hj:j≠t):(ik H t k x).bQ[j]?=H.bQ[j]? := by
 unfold ik QF;simp only;split<;>split<;>simp only[Ks _ hj]
theorem OR (p:Ph)(hj:j≠t):(Wt H t p).1.bQ[j]?=H.bQ[j]? := by
 cases p with
 | take k=>simp only[Wt];split<;>simp only[Vk,Ks _ hj]
 | cH k w=>
  simp only[Wt];split
  ·split
   ·unfold QF;rw[Ks _ hj];rfl
   ·rfl
  ·rfl
 | cJ k w=>
  simp only[Wt];split
  ·rfl
  ·unfold QF;rw[Ks _ hj];rfl
 | grow k w=>simp only[Wt];split<;>rfl
 | fill=>simp only[Wt];split<;>simp only[Vk,Ks _ hj]
 | eD m=>simp only[Wt];split<;>rfl
 | find x=>
  simp only[Wt,UJ];split
  ·rfl
  ·split
   ·rfl
   ·unfold QF;rw[Ks _ hj]
 | put k x=>exact R4 x hj
 | back=>
  simp only[Wt];split
  ·rw[BZ,Ks _ hj]
  ·rfl
 | dC s a=>simp only[Wt];split<;>rfl
 | drain=>simp only[Wt,Ks _ hj]
theorem Uc (p:Ph)(hj:j≠t):(Qq H t p).bQ[j]?=H.bQ[j]? := by
 unfold Qq eN;rw[Ks _ hj,OR p hj]
def fG (H:Hw)(j:Nat):Option Ph:=(H.bQ[j]?).bind (·.ph)
def vt (H H':Hw)(t:Nat):Prop:=fG H' t=none/\∀j,j≠t->fG H' j=fG H j
theorem Bs (h:HI H held s0)(hg:H.bQ[t]?=some g){p:Ph}(hp:g.ph=some p)(hf:¬k5 p):∃cl sz,Rq H.tb g p cl sz:=by
 have b:=(h.th g (h.mem hg)).ph;unfold ij at b;rw[hp]at b;cases p with
 | take k=>obtain⟨c,d,_⟩:=h.cls b.2;exact⟨_,_,rfl,c,d,rfl⟩
 | cH k w=>obtain⟨c,d,_⟩:=h.cls b.2.1;exact⟨_,_,rfl,c,d,rfl⟩
 | cJ k w=>obtain⟨c,d,_⟩:=h.cls b.2.1;exact⟨_,_,rfl,c,d,rfl⟩
 | grow k w=>obtain⟨c,d,_⟩:=h.cls b.2.1;exact⟨_,_,rfl,c,d,rfl⟩
 | fill=>
  obtain⟨k,x,j,i,e,_⟩:=b;obtain⟨c,d,_⟩:=h.cls e;exact⟨_,_,k,_,[],c,i,rfl,d,rfl⟩
 | eD m=>exact⟨_,_,rfl,rfl⟩
 | find x=>exact(hf trivial).elim
 | put k x=>exact(hf trivial).elim
 | back=>exact(hf trivial).elim
 | dC s a=>exact(hf trivial).elim
 | drain=>exact(hf trivial).elim
theorem qd (h:HI H held s0)(hg:H.bQ[t]?=some g){p:Ph}(hp:g.ph=some p){cl sz:Int}(hr:Rq H.tb g p cl sz):iw H t p/\tE H t p cl sz:=by
 cases p with
 | take k=>exact JS h hg hp hr
 | cH k w=>exact MS h hg hp hr
 | cJ k w=>exact Ml h hg hp hr
 | grow k w=>exact MV h hg hp hr
 | fill=>exact JV h hg hp hr
 | eD m=>exact Rh h hg hp hr
 | find x=>exact hr.elim
 | put k x=>exact hr.elim
 | back=>exact hr.elim
 | dC s a=>exact hr.elim
 | drain=>exact hr.elim
theorem qj (h:HI H held s0)(hg:H.bQ[t]?=some g){p:Ph}(hp:g.ph=some p)(hf:k5 p):iw H t p/\nq H t g p:=by
 cases p with
 | take k=>exact hf.elim
 | cH k w=>exact hf.elim
 | cJ k w=>exact hf.elim
 | grow k w=>exact hf.elim
 | fill=>exact hf.elim
 | eD m=>exact hf.elim
 | find x=>exact IU h hg hp
 | put k x=>exact Sf h hg hp
 | back=>exact Mb h hg hp
 | dC s a=>exact MO h hg hp
 | drain=>exact NT h hg hp
open Classical in
theorem HI.IW (h:HI H held s0)(hg:H.bQ[t]?=some g){p:Ph}(hp:g.ph=some p):iw H t p:=by
 by_cases hf:k5 p
 ·exact(qj h hg hp hf).1
 ·obtain⟨cl,b,a⟩:=Bs h hg hp hf;exact(qd h hg hp a).1
theorem U9 {p:Ph}(ht:t<H.bQ.length):∃g',(Qq H t p).bQ[t]?=some g'/\g'.ph=(Wt H t p).2.1:=DJ ht
theorem Ej {cl sz:Int}:∀(n:Nat) {H:Hw} {held:List Pc} {s0:Sp} {g:Th} {p:Ph},HI H held s0->H.bQ[t]?=some g->g.ph=some p->Rq H.tb g p cl sz->og H t p<=n →
 ∃m H' a e,iz m H t p H' a e/\(∃held s0,HI H' held s0)/\KS H.sp H'.sp/\vt H H' t/\((e≠0/\a=0/\H'.live=H.live)\/(e=0/\bV H.live a=none/\H'.live=dB H.live a (a,sz,cl,XO H'.bX a)))
 | n,H,held,s0,g,p,h,hg,hp,hr,hn=>by
  have ht:=(cW.1 hg).1;obtain⟨s,D⟩:=qd h hg hp hr;have b:(Wt H t p).2.1=none->vt H (Qq H t p) t:=λF=>by
   obtain⟨G,y,x⟩:=U9 (p:=p) ht;exact⟨by unfold fG;rw[y];exact x.trans F,λj u=>by unfold fG;rw[Uc p u]⟩
  rcases D with⟨p',G,e1,e2,e3,e4,e5⟩|⟨e1,e2,e3,e4⟩|⟨e1,e2,e3,e4⟩
  ·obtain⟨w,C,E⟩:=s.hi;obtain⟨J,i,kD⟩:=U9 (p:=p) ht;rw[e3]at i;cases i;have z:(Qq H t p).tb=H.tb:=(Ug H t p).1;have B:og (Qq H t p) t p'<n:=by omega
   obtain⟨m,H',a,e,r,hi,ks,A,d⟩:=Ej (og (Qq H t p) t p') E e3 (kD.trans e1) (by rw[z];exact e4) (zD _);refine⟨m+1,H',a,e,.next s.ok e1 r,hi,s.ks.trans ks,⟨A.1,λj u=>(A.2 j u).trans (by unfold fG;rw[Uc p u])⟩,?_⟩;rw[e2]at d;exact d
  ·exact⟨1,_,_,_,.done s.ok e1,s.hi,s.ks,b e1,.inl ⟨e2,e3,e4⟩⟩
  ·exact⟨1,_,_,_,.done s.ok e1,s.hi,s.ks,b e1,.inr ⟨e2,e3,e4⟩⟩
termination_by n=>n
theorem Cr:∀(n:Nat) {H:Hw} {held:List Pc} {s0:Sp} {g:Th} {p:Ph},HI H held s0->H.bQ[t]?=some g->g.ph=some p->k5 p->pc g p<=n →
 ∃m H' e,iz m H t p H' 0 e/\(∃held s0,HI H' held s0)/\KS H.sp H'.sp/\vt H H' t/\((∀x,p≠.find x)->e=0/\H'.live=H.live) ∧
  (∀x,p=.find x->(bV H.live x=none->e≠0/\H'.live=H.live)/\(∀b,bV H.live x=some b->e=0/\H'.live=cT H.live x))
 | n,H,held,s0,g,p,h,hg,hp,hf,hn=>by
  have ht:=(cW.1 hg).1;obtain⟨s,P,L,J,a⟩:=qj h hg hp hf;rcases L with⟨p',A,e1,e2,e3,e4,e5⟩|e1
  ·obtain⟨w,K,M⟩:=s.hi;obtain⟨R,i,kD⟩:=U9 (p:=p) ht;rw[e4]at i;cases i;have Q:pc A p'<n:=by omega
   obtain⟨m,H',e,r,hi,ks,E,C,_⟩:=Cr (pc A p') M e4 (kD.trans e1) e2 (zD _);obtain⟨G,F⟩:=C e3;refine⟨m+1,H',e,.next s.ok e1 r,hi,s.ks.trans ks,⟨E.1,λj u=>(E.2 j u).trans (by unfold fG;rw[Uc p u])⟩,λd=>⟨G,F.trans (J d).2⟩,λx d=>⟨λD=>?_,λb N=>⟨G,F.trans ((a x d).2 b N).2⟩⟩⟩;have:=((a x d).1 D).1;rw[e1]at this;cases this
  ·have B:vt H (Qq H t p) t:=by
    obtain⟨A,z,y⟩:=U9 (p:=p) ht;exact⟨by unfold fG;rw[z];exact y.trans e1,λj u=>by unfold fG;rw[Uc p u]⟩
   have r:=iz.done (H:=H) (t:=t) s.ok e1;rw[P]at r;exact⟨1,_,_,r,s.hi,s.ks,B,J,λx d=>⟨λD=>((a x d).1 D).2,(a x d).2⟩⟩
termination_by n=>n
structure fY (H H':Hw):Prop where
 hi:∃held s0,HI H' held s0
 ks:KS H.sp H'.sp
 kp:Qr H' H
 ph:∀j,fG H' j=fG H j
theorem fY.refl (h:HI H held s0):fY H H:=⟨⟨held,s0,h⟩,KS.refl _,Qr.refl _,λ_=>rfl⟩
theorem fY.trans {H1 H2 H3:Hw}(a:fY H1 H2)(b:fY H2 H3):fY H1 H3:=⟨b.hi,a.ks.trans b.ks,a.kp.trans b.kp,λj=>(b.ph j).trans (a.ph j)⟩
theorem CV {tb:List bZ}{kind size align addr:Int}{p:Ph}(h:iH tb kind size align addr=some p)(hx:iD addr)(hh:g.bP=[]):ij tb.length {g with ph:=some p}:=by
 unfold iH at h;split at h
 ·split at h
  ·split at h
   ·split at h
    ·rename_i k hk;cases h;exact⟨hh,CB hk⟩
    ·cases h;exact⟨hh,O,O⟩
   ·cases h
  ·cases h
 ·split at h
  ·cases h;exact⟨hh,hx⟩
  ·split at h
   ·cases h;exact hh
   ·cases h
theorem HI.eN (h:HI H held s0)(hg:H.bQ[t]?=some g)(hn:g.ph=none){p:Ph}(hp:ij H.tb.length {g with ph:=some p})(hq:∀s a,p≠.dC s a):HI (eN H t (some p)) held s0:=by
 have b:=h.th g (h.mem hg);have e:Go.Ar.eN H t (some p) = {H with bQ:=H.bQ.set t {g with ph:=some p}}:=Zp hg _;rw[e];refine h.kj hg (live':=H.live) (λi x=>?_) h.lk (λj d=>.inl d) (λs a hp=>by cases hp;exact(hq s a rfl).elim) ⟨b.ll,b.lo,b.hb,b.hl,hp⟩;unfold gF;rw[hn];have:jy (some p) i x=0:=by
  cases p<;>first|rfl|exact(hq _ _ rfl).elim
 simp only[this];simp only[jy]
theorem D8 (h:HI H held s0)(hg:H.bQ[t]?=some g)(hn:g.ph=none):g.bP=[]:=by
 have:=(h.th g (h.mem hg)).ph;unfold ij at this;rw[hn]at this;exact this
theorem HO (H:Hw)(thread kind size align addr:Int):(∃e,Kc H thread kind size align addr=.inl e/\e≠0)\/∃(t:Nat) (p:Ph) (g:Th),thread=(t:Int)/\H.bQ[t]?=some g/\g.ph=none/\iH H.tb kind size align addr=some p/\Kc H thread kind size align addr=.inr (t,p):=by
 unfold Kc;split
 ·split
  ·split
   ·split
    ·rename_i hth _ g hg hn _ p hp;exact .inr ⟨thread.toNat,p,g,O,hg,hn,hp,rfl⟩
    ·exact .inl ⟨1,rfl,by decide⟩
   ·exact .inl ⟨5,rfl,by decide⟩
  ·exact .inl ⟨1,rfl,by decide⟩
 ·exact .inl ⟨1,rfl,by decide⟩
theorem PF (hg:H.bQ[t]?=some g)(p:Option Ph)(hj:j≠t):fG (eN H t p) j=fG H j:=by
 unfold fG eN;rw[Ks _ hj]
theorem EG (hg:H.bQ[t]?=some g)(hn:g.ph=none){p:Ph}(ps:vt (eN H t (some p)) H' t):∀j,fG H' j=fG H j:=λj=>by
 by_cases hj:j=t
 ·subst hj;rw[ps.1];unfold fG;rw[hg];exact hn.symm
 ·rw[ps.2 j hj,PF hg _ hj]
def qz (H:Hw)(size align:Int)(H':Hw)(a e:Int):Prop:=(e≠0/\a=0/\H'.live=H.live) ∨
 (e=0/\bV H.live a=none/\(1<=size/\size<=16384/\Uw size align=true)/\∃cl,H'.live=dB H.live a (a,(GC H.tb size align).1,cl,XO H'.bX a)/\((∃k:Nat,cl=k/\gN H.tb size align=some k)\/cl = -1/\gN H.tb size align=none))
theorem Ov (h:HI H held s0)(thread size align:Int):∃H' a e,V1 H thread 0 size align 0 H' a e/\fY H H'/\qz H size align H' a e:=by
 rcases HO H thread 0 size align 0 with⟨e,hs,hne⟩|⟨t,p,g,rfl,hg,hn,hq,hs⟩
 ·exact⟨H,0,e,.inl ⟨hs,hne,rfl,rfl⟩,fY.refl h,.inl ⟨hne,rfl,rfl⟩⟩
 ·have D:=D8 h hg hn;have j:=CV (g:=g) hq (by unfold iD;decide) D;unfold iH at hq;rw[zC rfl]at hq;split at hq
  ·rename_i hsz;split at hq
   ·rename_i hok;have b:GC H.tb size align=(match gN H.tb size align with
     | some k=>((H.tb.getD k ⟨8,1,1⟩).size:Int)
     | none=>x8 size,0):=by
     unfold GC;rw[zC ⟨hsz.2,hok⟩]
     first|done | (cases gN H.tb size align<;>rfl)
    obtain⟨cl,d,w⟩:∃cl,Rq H.tb {g with ph:=some p} p cl (GC H.tb size align).1/\((∃k:Nat,cl=k/\gN H.tb size align=some k)\/cl = -1/\gN H.tb size align=none):=by
     cases hcv:gN H.tb size align with
     | some k=>
      rw[hcv]at hq b;cases hq;have u:=CB hcv;have z:H.tb[k]?=some H.tb[k]:=cV u;refine⟨k,⟨rfl,H.tb[k],z,?_⟩,.inl ⟨k,rfl,rfl⟩⟩;rw[b];simp only;rw[zP,z];rfl
     | none=>
      rw[hcv]at hq b;cases hq;refine⟨-1,⟨rfl,?_⟩,.inr ⟨rfl,rfl⟩⟩;rw[b];simp only;unfold x8;omega
    have i:∀s a,p≠.dC s a:=λs a e=>by subst e;exact d.elim
    have A:=h.eN hg hn j i;have y:(Go.Ar.eN H t (some p)).bQ[t]?=some {g with ph:=some p}:=by
     have E:=(cW.1 hg).1;have e:Go.Ar.eN H t (some p) = {H with bQ:=H.bQ.set t {g with ph:=some p}}:=Zp hg _;rw[e];simp[E]
    obtain⟨m,H',a,e,r,C,ks,B,x⟩:=Ej _ A y rfl d (zD _);refine⟨H',a,e,.inr ⟨t,p,m,hs,r⟩,⟨C,ks,(Kx _ _ _).trans (FL r),EG hg hn B⟩,?_⟩;rcases x with⟨r1,r2,r3⟩|⟨r1,r2,r3⟩
    ·exact .inl ⟨r1,r2,r3⟩
    ·exact .inr ⟨r1,r2,⟨hsz.1,hsz.2,hok⟩,cl,r3,w⟩
   ·cases hq
  ·cases hq
def ot (H:Hw)(thread addr:Int)(H':Hw)(e:Int):Prop:=
 (e≠0/\H'=H/\Kc H thread 1 0 0 addr=.inl e)\/((∃p,Kc H thread 1 0 0 addr=.inr p)/\bV H.live addr=none/\e≠0/\H'.live=H.live)\/((∃p,Kc H thread 1 0 0 addr=.inr p)/\∃b,bV H.live addr=some b/\e=0/\H'.live=cT H.live addr)
theorem RT (h:HI H held s0)(hg:H.bQ[t]?=some g)(hn:g.ph=none){p:Ph}(hp:ij H.tb.length {g with ph:=some p})(hf:k5 p)(hq:∀s a,p≠.dC s a):∃m H' e,iz m (eN H t (some p)) t p H' 0 e/\fY H H'/\((∀x,p≠.find x)->e=0/\H'.live=H.live) ∧
 (∀x,p=.find x->(bV H.live x=none->e≠0/\H'.live=H.live)/\(∀b,bV H.live x=some b->e=0/\H'.live=cT H.live x)):=by
 have j:=h.eN hg hn hp hq;have d:(Go.Ar.eN H t (some p)).bQ[t]?=some {g with ph:=some p}:=by
  have i:=(cW.1 hg).1;have e:Go.Ar.eN H t (some p) = {H with bQ:=H.bQ.set t {g with ph:=some p}}:=Zp hg _;rw[e];simp[i]
 obtain⟨m,H',e,r,z,ks,w,u,y⟩:=Cr _ j d rfl hf (zD _);exact⟨m,H',e,r,⟨z,ks,(Kx _ _ _).trans (FL r),EG hg hn w⟩,u,y⟩
theorem JZ (h:HI H held s0)(thread addr:Int)(hx:iD addr):∃H' e,V1 H thread 1 0 0 addr H' 0 e/\fY H H'/\ot H thread addr H' e:=by
 rcases HO H thread 1 0 0 addr with⟨e,hs,hne⟩|⟨t,p,g,rfl,hg,hn,hq,hs⟩
 ·exact⟨H,e,.inl ⟨hs,hne,rfl,rfl⟩,fY.refl h,.inl ⟨hne,rfl,hs⟩⟩
 ·have d:=CV (g:=g) hq hx (D8 h hg hn);have j:p=.find addr:=by unfold iH at hq;simp at hq;exact hq.symm
  subst j;obtain⟨m,H',e,r,op,_,i⟩:=RT h hg hn d trivial (λs a e=>by cases e);refine⟨H',e,.inr ⟨t,_,m,hs,r⟩,op,?_⟩;cases hm:bV H.live addr with
  | none=>exact .inr (.inl ⟨⟨_,hs⟩,hm,(i addr rfl).1 hm⟩)
  | some b=>exact .inr (.inr ⟨⟨_,hs⟩,b,hm,(i addr rfl).2 b hm⟩)
end Go.Ar
namespace Go.Ar
open Go Go.Vc Go.Proofs
variable {U u w w':Hp}{F B P Q:Rg}{L:dM}{H H':Hw}{t n k:Nat}{A:AR}{Y:Lay}
theorem Fr.refl (A:AR):Fr A A:=⟨rfl,rfl,rfl⟩
theorem Fr.trans {A B C:AR}(h:Fr B A)(k:Fr C B):Fr C A:=⟨k.1.trans h.1,k.2.1.trans h.2.1,k.2.2.trans h.2.2⟩
end Go.Ar
namespace Go.Ar
variable {A:AR}
def pX (tb:List bZ)(n room m:Nat):Wd:=⟨tb,KZ n,List.replicate m (fo n room tb),[]⟩
theorem JT {n room:Nat}{tb:List bZ}(h1:32<=n)(h2:n<=1024)(h3:n%16=0)(h6:tb.length<=40)(h7:∀c∈tb,c.ok):GA (fo n room tb)/\∀p,(fo n room tb).f p=0:=by
 have g:∀p,(fo n room tb).f p=0:=λp=>by
  show(List.replicate n 0).getD p 0=0;rw[zP,mc];split<;>rfl
 have b:∀{k:Nat} {i:List cG},(List.replicate tb.length ([]:List cG))[k]?=some i->i=[]:=λh=>by
  rw[mc]at h;split at h<;>simp at h;exact h
 have a:∀{k:Nat} {t:gD},(List.replicate tb.length (⟨0,[]⟩:gD))[k]?=some t->t.bs=[]:=λh=>by
  rw[mc]at h;split at h<;>simp at h;rw[←h]
 refine⟨⟨⟨by simp[fo],h1,h2,h3,λp=>by rw[g];omega,λp=>by rw[g];simp[fo],λp=>by rw[g];simp[fo,Go.Bu.iu],λp=>by rw[g,g]⟩,h6,by simp[fo],by simp[fo],λk c i d=>?_,λk c i d s m=>?_,λk c i d p=>?_,λp=>?_,λp=>.inr (Nat.zero_le _),by simp[fo],by simp[fo],λk t j=>?_,λk c i t d j=>?_,λk c t d j=>?_⟩,g⟩
 ·have e:=b d.2;subst e;exact⟨h7 c (zG d.1),by simp,by simp⟩
 ·have e:=b d.2;subst e;simp at m
 ·have e:=b d.2;subst e;constructor
  ·intro h;cases h
  ·rintro⟨s,m,_⟩;simp at m
 ·constructor
  ·intro h;cases h
  ·rintro⟨r,hr,_⟩;simp[fo]at hr
 ·have:=a j;rw[this];exact sF
 ·have:=a j;rw[this];simp
 ·have:=a j;rw[this];simp
theorem RP {tb:List bZ}{n room m:Nat}(h1:32<=n)(h2:n<=1024)(h3:n%16=0)(h6:tb.length<=40)(h7:∀c∈tb,c.ok):WI (pX tb n room m):=by
 obtain⟨w,d⟩:=JT (room:=room) h1 h2 h3 h6 h7;have get:∀{k:Nat} {A:AR},(pX tb n room m).bX[k]?=some A->A=fo n room tb:=λ{k A} h=>by
  have h:(List.replicate m (fo n room tb))[k]?=some A:=h;rw[mc]at h;split at h<;>simp at h;exact h.symm
 have b:∀p,gf (KZ n).st p=0:=λp=>by
  show(List.replicate n 0).getD p 0=0;rw[zP,mc];split<;>rfl
 refine⟨λk A h=>by rw[get h];exact w,λk A h=>?_,λk A h=>by rw[get h];rfl,λk A h p a=>by rw[get h];exact d p,λp a=>(a (b p)).elim,λp k l A B z F h1 h2=>?_,sF,λp a=>by simp[pX]at a,λk A h j y u=>?_,λk A h r g=>?_⟩
 ·rw[get h];exact⟨by simp[pX,KZ,fo],λp a=>(a (d p)).elim,λp a=>by rw[d p]at a;omega,λp=>by show gf (KZ n).st p<=2;rw[b];omega⟩
 ·rw[get z]at h1;exact(h1 (d p)).elim
 ·rw[get h]at u;obtain⟨c,E,x,D⟩:=u;have e:E=[]:=by
   have h2:=x.2;simp only[fo]at h2;rw[mc]at h2;split at h2<;>simp at h2;exact h2
  subst e;obtain⟨G,s,i,C,_⟩:=(Vs (w.cD _ _ _ x)).1 D;simp at C
 ·rw[get h]at g;simp[fo]at g
end Go.Ar
namespace Go.Ar
open Go.Vc (bV dB cT)
variable {H H':Hw}{held:List Pc}{s0:Sp}{t k j:Nat}{g:Th}{A:AR}{c:bZ}
theorem Sy {tb:List bZ}{cf:Cf}(h1:32<=cf.aF)(h2:cf.aF<=1024)(h3:cf.aF%16=0)(h4:1<=cf.gV)(h6:tb.length<=40)(h7:∀c∈tb,c.ok):HI (VP tb cf) [] (KZ cf.aF):=by
 have u:=RP (tb:=tb) (n:=cf.aF) (room:=cf.room) (m:=cf.gV) h1 h2 h3 h6 h7;have d:∀g∈(VP tb cf).bQ,g=⟨List.replicate tb.length ib,[],none⟩:=λg i=>(yh.1 i).2;have r:∀k,(List.replicate tb.length ib).getD k ib=ib:=λk=>by
  rw[zP,mc];split<;>rfl
 refine⟨u,ju.refl _,λk x=>?_,sF,λe z=>by simp[VP]at z,λg i s a j=>?_,λg i=>?_,h7,?_,?_⟩
 ·have w:∀(n:Nat) (f:Th->Nat) (g:Th),f g=0->((List.replicate n g).map f).sum=0:=λn f g h=>by
   rw[uv,h]
   induction n with
   | zero=>rfl
   | succ n ih=>rw[wE,nG,ih]
  have B:gF ⟨List.replicate tb.length ib,[],none⟩ k x=0:=by
   unfold gF lg;split
   ·simp only[r];rfl
   ·rfl
  have:pL (VP tb cf) k x=0:=by
   unfold pL;show lV [] k x+((List.replicate cf.threads (⟨List.replicate tb.length ib,[],none⟩:Th)).map λg=>gF g k x).sum=0;rw[w _ _ _ B];rfl
  rw[this,Q8];rintro⟨p,j,_⟩;simp at j
 ·rw[d g i]at j;cases j
 ·rw[d g i];refine⟨by simp[VP],λl y=>?_,λb A=>by simp at A,by simp,by unfold ij;rfl⟩;rw[(yh.1 y).2];exact⟨fI.nil,by simp[ib]⟩
 ·show 1<=(List.replicate cf.gV (fo cf.aF cf.room tb)).length;simpa using h4
 ·show(List.replicate cf.aF 0).length=cf.aF;simp
def KL (H H':Hw):Prop:=∀e∈H.live,∀w:Nat,e.1<=((8*w:Nat):Int)->((8*w:Nat):Int)<e.1+e.2.2.1->H'.sp.wd w=H.sp.wd w
theorem HI.yw (h:HI H held s0):WI ⟨H.tb,s0,H.bX,held⟩:=h.wi
theorem HI.mapped (h:HI H held s0){p:Pc}(hp:p∈held){x:Nat}(h1:p.addr<=x)(h2:x<p.addr+p.size):gf H.sp.st (x/256)≠0:=by
 obtain⟨A,a,_⟩:=h.wi.hf p hp;have e1:=h.wi.qg hp a h1 h2;have:=(h.wi.ow _ A a).own (x/256) O;intro hz;exact this ((h.mP.z _).1 hz)
theorem HI.kl (h:HI H held s0)(k:KS H.sp H'.sp):KL H H':=λe b w g j=>by
 obtain⟨_,p,a,_,_,i,m,_⟩:=h.lv e b;have d:=h.mapped a (x:=8*w) O O;exact(k.k _ d).2 w O
theorem KL.refl (H:Hw):KL H H:=λ_ _ _ _ _=>rfl
theorem KL.trans {H1 H2 H3:Hw}(a:KL H1 H2)(b:KL H2 H3)(hl:∀e∈H1.live,e∈H2.live):KL H1 H3:=λe d w i g=>(b e (hl e d) w i g).trans (a e d w i g)
structure lY (H H':Hw):Prop where
 hi:∃held s0,HI H' held s0
 live:H'.live=H.live
 bQ:H'.bQ=H.bQ
 kp:Qr H' H
 kl:KL H H'
theorem lY.refl (h:HI H held s0):lY H H:=⟨⟨_,_,h⟩,rfl,rfl,Qr.refl _,KL.refl _⟩
theorem lY.trans {H1 H2 H3:Hw}(a:lY H1 H2)(b:lY H2 H3):lY H1 H3:=⟨b.hi,b.live.trans a.live,b.bQ.trans a.bQ,a.kp.trans b.kp,a.kl.trans b.kl λe d=>by rw[a.live];exact d⟩
theorem HI.n (h:HI H held s0)(hk:H.bX[k]?=some A):A.n=H.cf.aF:=by
 have:=(h.wi.ow k A hk).l;have a:=h.mP.l;have b:=h.sl;simp only at this;omega
theorem WI.wd {W:Wd}(h:WI W)(f:Nat->Int):WI {W with sp:={W.sp with wd:=f}}:=
 ⟨h.ga,λk A hk=>⟨(h.ow k A hk).l,(h.ow k A hk).own,(h.ow k A hk).cl,(h.ow k A hk).le⟩,h.tb,h.low,h.own,h.one,h.hk,h.hf,h.ht,h.hr⟩
theorem NO {sp:Sp}{x:Int}(h:eP sp x=0):0<=x/\x%8=0/\gf sp.st (x.toNat/256)≠0:=by
 unfold eP at h;split at h
 ·cases h
 ·split at h
  ·cases h
  ·exact⟨O,O,by assumption⟩
theorem Fl (sp:Sp)(x v:Int):(ZU sp x v).st.length=sp.st.length/\(∀p,gf (ZU sp x v).st p=0↔gf sp.st p=0)/\∀w,(ZU sp x v).wd w=if eP sp x=0/\w=x.toNat/8 then v else sp.wd w:=by
 unfold ZU;split
 ·rename_i h0;have a:=NO h0;refine⟨by simp[m8],λp=>?_,λw=>?_⟩
  ·show gf (sp.st.set (x.toNat/8/32) 2) p=0↔_;have b:x.toNat/8/32=x.toNat/256:=by omega
   rw[b];unfold gf at a ⊢;rw[zP]at a ⊢;rw[zP,mJ];split
   ·rename_i he;split
    ·rw[←he];simp only[py];exact⟨λh=>O,λh=>(a.2.2 h).elim⟩
    ·rename_i hl;rw[zV O]at a;exact(a.2.2 rfl).elim
   ·exact Iff.rfl
  ·show(if w=x.toNat/8 then v else sp.wd w)=_
   by_cases hw:w=x.toNat/8
   ·rw[zC hw,zC ⟨h0,hw⟩]
   ·rw[zB hw,zB λh=>hw h.2]
 ·exact⟨rfl,λ_=>Iff.rfl,λw=>by rw[zB λh=>by have:=h.1;contradiction]⟩
theorem HI.write (h:HI H held s0)(x v:Int):HI {H with sp:=ZU H.sp x v} held {s0 with wd:=(ZU H.sp x v).wd}:=by
 obtain⟨a,b,_⟩:=Fl H.sp x v;exact⟨h.wi.wd _,⟨a.trans h.mP.l,λp=>(b p).trans (h.mP.z p),rfl⟩,h.cn,h.lk,h.lv,h.gv,h.th,h.ok,h.a1,a.trans h.sl⟩
end Go.Ar
namespace Go.Ar
open Go Go.Vc Go.Proofs
variable {U u w w':Hp}{F B P Q:Rg}{L:dM}{H H':Hw}{t n:Nat}{g:Th}
end Go.Ar
namespace Go.Proofs
open Go.Vc
set_option maxRecDepth 100000
def WO.h:Hn:=.q .o2 (.q (.q (.cR (.seq [.op,.op,.op,.cX false 2 [.op,.op]])) .aJ) (.q .o1 (.q .o1 (.q (.k (.loop [(4,.one .s),(5,.I)] (.q (.q .o2 (.c .l .l)) (.k (.q .o7 .o6))))) (.q .o6 (.q .o1 (.q (.q .o1 (.k (.loop [(6,.one .s),(7,.I)] (.q (.q .o4 (.c .l .l)) (.q (.k (.q (.cR (.hO true [] [(70,.one .b)] (.tk [0,1,2,3,4,5] (.split 43 (.tk [6,7,8,9,10,11,12,13,14,15,16,17,18,19,20,21,22,23,24,25,26,27,28,29,30,31,32] (.done)) (.tk [6,7,8,9,10,11,12,13,14,15,16,17,18,19] (.split 57 (.tk [20,21,22,23,24,25,26,27,28,29,30,31,32] (.done)) (.tk [20,21,22,23,25,26,27,28,29] (.all [(24,.all [(30,.take 31 (.take 32 (.done)))])])))))))) (.c .o8 .l))) .o3))))) (.q .o3 .l))))))))
def WO.v (a:Int)(b:Hp)(c:Sl->Int->Hp->Prop):Prop:=bW (λd e=>If d (c ⟨none,0,0⟩ 1 e) (Yo [.s,bN] (λf=>f ⟨none,0,0⟩ 8 e) λg (h:Sl) (i:Int) j=>If (i<512) (Xb.c i a j λk l m n=>aV #[.I k,.I l,.I m] 137 n λo p=>App h 3 24 137 [.I 0,.I 0,.I 0] ⟨some o,1,1⟩ p λq r=>XJ.c i a r λs t=>bL (i+s) λu=>g q u t) (Xb.c 512 a j λv w x y=>aV #[.I v,.I w,.I x] 137 y λz aa=>App h 3 24 137 [.I 0,.I 0,.I 0] ⟨some z,1,1⟩ aa λab ac=>Yo [.s,bN] (λad=>ad ⟨none,0,0⟩ 0 ac) λae (af:Sl) (ag:Int) ah=>If (ag<((ab.len:Nat):Int)) (Jn [.b] (λ(ai:Bool) aj=>If ai (Ix ab.a ab.len ag 3 λak=>aQ ak 0 aj λal=>aQ ak 1 aj λam=>aQ ak 2 aj λan=>aV #[.I al,.I am,.I an] 137 aj λao ap=>App af 3 24 137 [.I 0,.I 0,.I 0] ⟨some ao,1,1⟩ ap λaq ar=>bL (ag+1) λau=>ae aq au ar) (bL (ag+1) λav=>ae af av aj)) λaw=>eL ah λax=>bL (((ab.len:Nat):Int)-1) λay=>If (ag==ay) (aw true ah) (Ix ab.a ab.len ag 3 λaz=>aS ax az 1 λa0=>bL (ag+1) λa1=>Ix ab.a ab.len a1 3 λa2=>aS ax a2 1 λa3=>If (a0 != a3) (aw true ah) (Ix ab.a ab.len ag 3 λa4=>aS ax a4 0 λa5=>aS ax a4 1 λa6=>aS ax a4 2 λa7=>bL (ag+1) λa8=>Ix ab.a ab.len a8 3 λa9=>aS ax a9 0 λba=>aS ax a9 1 λbb=>aS ax a9 2 λbc=>WN.c a5 a6 a7 ah λbd be=>
 And (ax be) <| WN.c ba bb bc be λbf bg=>And (ax bg) <| aw (bd != bf) bg))) (c af 0 ah)))) λbh=>If (a<2) (bh true b) (bh (decide (a>16)) b)
theorem WO.o {a b c}(d:WO.v a b c):WO.c a b c:=Wa Tryz.func100 (x:=WO.h) (R0 d)
def Xb.h:Hn:=.q .o1 (.q .o8 (.q (.q .o1 (.k (.loop [(6,.I)] (.q (.q .o2 (.c .l .l)) (.q (.k (.q (.cR (.seq [.op,.op,.op,.op,.op,.cX true 9 (RI.ops 9)])) (.c .o3 .l))) .o3))))) .aL))
def Xb.v (a b:Int)(c:Hp)(d:Int->Int->Int->Hp->Prop):Prop:=aV #[.I 0,.I 0,.I 0] 137 c λe f=>Nz a<|bL ((512:Int).tdiv a) λg=>aV #[.I 0,.I 0,.I 0] 137 f λh i=>aR h 0 (.I a) i λj=>aR h 1 (.I 4) j λk=>aR h 2 (.I (if 32<(if 2>g then 2 else g)then 32 else(if 2>g then 2 else g))) k λl=>Yo [bN] (λm=>m 4 l) λn (o:Int) p=>If (o≥1) (bL (o*256) λq=>bW (λr s=>If r (aR h 1 (.I o) s λt=>bL (o-1) λu=>n u t) (bL (o-1) λv=>n v s)) λw=>If (q≥a) (bL (o*256) λx=>Nz a <| bL (b*(x.tmod a)) λy=>bL (o*256) λz=>w (decide (y<=z)) p) (w false p)) (aQ h 0 p λaa=>aQ h 1 p λab=>aQ h 2 p λac=>aR e 0 (.I aa) p λad=>aR e 1 (.I ab) ad λae=>aR e 2 (.I ac) ae λaf=>aQ e 0 af λag=>aQ e 1 af λah=>aQ e 2 af λai=>d ag ah ai af)
theorem Xb.o {a b c d}(e:Xb.v a b c d):Xb.c a b c d:=Wa Tryz.func137 (x:=Xb.h) (R0 e)
def XJ.h:Hn:=.q .o1 (.q .o1 (.q (.k (.loop [(5,.I)] (.q (.q .o6 (.c .l .l)) (.k .o3)))) .aL))
def XJ.v (a b:Int)(c:Hp)(d:aN):Prop:=Yo [bN] (λe=>e 8 c) λf (g:Int) h=>bL (2*g) λi=>Nz b<|bL (a.tdiv b) λj=>If (i<=j) (bL (2*g) λk=>f k h) (d g h)
theorem XJ.o {a b c d}(e:XJ.v a b c d):XJ.c a b c d:=Wa Tryz.func138 (x:=XJ.h) (R0 e)
def WN.h:Hn:=.q .o2 (.q .o1 (.q (.k (.loop [(3,.I)] (.q (.q .o9 (.c .l .l)) (.k .o3)))) .aL))
def WN.v (a b c:Int)(d:Hp)(e:aN):Prop:=aV #[.I a,.I b,.I c] 137 d λf g=>Yo [bN] (λh=>h 0 g) λi (j:Int) k=>bL (j+1) λl=>aQ f 0 k λm=>bL (l*m) λn=>aQ f 1 k λo=>bL (o*256) λp=>If (n<=p) (bL (j+1) λq=>i q k) (e j k)
theorem WN.o {a b c d e}(f:WN.v a b c d e):WN.c a b c d e:=Wa Tryz.func139 (x:=WN.h) (R0 f)
end Go.Proofs
namespace Go.Ar
open Go Go.Vc Go.Proofs
variable {U w:Hp}
abbrev T3:=Int×Int×Int
def v3 (x:T3):List Value:=[.int .i64 x.1,.int .i64 x.2.1,.int .i64 x.2.2]
def j7 (l:List T3):List Value:=l.flatMap v3
theorem VW (l:List T3):(j7 l).length=l.length*3:=by
 induction l with
 | nil=>rfl
 | cons x l ih=>simp only[j7,oY,zO,v3,zY,lN]at *;omega
theorem AZ (l:List T3)(x:T3):j7 (l++[x])=j7 l++v3 x:=by simp[j7]
theorem HD:∀{l:List T3} {i:Nat} {x:T3},l[i]?=some x->∀{d:Nat},d<3->(j7 l)[i*3+d]?=(v3 x)[d]?
 | [],_,_,h,_,_=>by simp at h
 | y::l,0,x,h,d,hd=>by
  simp at h;subst h;have e:j7 (y::l)=v3 y++j7 l:=rfl;rw[e,ze (by simp[v3];omega)];congr 1;omega
 | y::l,i+1,x,h,d,hd=>by
  have e:j7 (y::l)=v3 y++j7 l:=rfl;have a:(v3 y).length=3:=rfl;rw[e,zp O,a,show(i+1)*3+d-3=i*3+d by omega];exact HD (by simpa using h) hd
theorem Ev {Q:Rg}{s:Sl}{l:List T3}(h:Go.Vc.Own Q U s 3 (j7 l)):ie U s l:=by
 have r:=h.1;rw[VW]at r;refine⟨O,λi x y z d=>?_⟩;obtain⟨b,e,g⟩:=h.cell (j:=i*3+0) (v:=.int .i64 x) ((HD d O).trans rfl);obtain⟨p,a,m⟩:=h.cell (j:=i*3+1) (v:=.int .i64 y) ((HD d O).trans rfl);rw[e]at a;cases a;obtain⟨p,a,u⟩:=h.cell (j:=i*3+2) (v:=.int .i64 z) ((HD d O).trans rfl);rw[e]at a;cases a;refine⟨b,0,e,Q6 g,?_,?_,?_⟩
 ·rw[show 0+i*3=i*3+0 by omega];exact g
 ·rw[show 0+i*3+1=i*3+1 by omega];exact m
 ·rw[show 0+i*3+2=i*3+2 by omega];exact u
def sx (s w:Int)(n:Nat):Int:=([4,3,2,1].take n).foldl (λ(r p:Int)=>if s<=p*256/\w*((p*256)%s)<=p*256 then p else r) 4
def xR (s:Int):Int:=min 32 (max 2 (512/s))
def kL (s w:Int):T3:=(s,sx s w 4,xR s)
def vP:Nat->Int->Int->Int
 | 0,d,_=>d
 | n+1,d,q=>if 2*d<=q then vP n (2*d) q else d
def wc (s w:Int):Int:=vP 8 8 (s/w)
def mn (x:T3):Int:=x.2.1*256/x.1
theorem OA (s w:Int)(n:Nat):1<=sx s w n/\sx s w n<=4:=by
 have key:∀(l:List Int) (r:Int),(∀p∈l,1<=p/\p<=4)->1<=r/\r<=4->1<=l.foldl (λ(r p:Int)=>if s<=p*256/\w*((p*256)%s)<=p*256 then p else r) r/\l.foldl (λ(r p:Int)=>if s<=p*256/\w*((p*256)%s)<=p*256 then p else r) r<=4:=by
  intro l
  induction l with
  | nil=>intro r _ h;exact h
  | cons p l ih=>
   intro r hl hr;rw[pS];refine ih _ (λq a=>hl q (nu _ a)) ?_;split
   ·exact hl p pd
   ·exact hr
 refine key _ _ (λp b=>?_) O;have:=vp b;simp at this;omega
theorem FZ (s w:Int)(h1:8<=s)(h2:s<=512)(hw1:2<=w)(hw2:w<=16){R:Int->Int->Int->Hp->Prop}(hR:∀σ',bK U σ'->R (kL s w).1 (kL s w).2.1 (kL s w).2.2 σ'):Xb.c s w U R:=by
 refine Xb.o ?_;unfold Xb.v;have M:1<=512/s/\512/s<=64:=⟨by rw[Int.le_ediv_iff_mul_le O];omega,Int.ediv_le_of_le_mul O O⟩;refine nw (cs:=[.int .i64 0,.int .i64 0,.int .i64 0]) λv hz e X=>nz O (ar (by rw[Yq O];omega) (by rw[Yq O];omega) ?_);rw[Yq O];refine nw (cs:=[.int .i64 0,.int .i64 0,.int .i64 0]) λv1 H e1 y=>y.s1 aA λv2 o2 D=>D.s1 aA λL o3 g=>g.s1 aA λv4 o4 b4=>?_;have b:U.size≠v.size:=by omega
 have E:=Ws o4 (Ws o3 (Ws o2 (e1.bT X id) b) b) b;have Z:bK U v4:=((((e.trans e1).only o2 (.inr O)).only o3 (.inr O)).only o4 (.inr O));have p:(if 32<(if 2>512/s then 2 else 512/s)then 32 else(if 2>512/s then 2 else 512/s))=xR s:=by unfold xR;omega
 rw[p]at b4;refine ZY (a:=bN) (λ(z:Int) u=>∃n:Nat,n<=4/\z=4-(n:Int)/\bK U u/\bY u U.size [.int .i64 0,.int .i64 0,.int .i64 0]/\bY u v.size [.int .i64 s,.int .i64 (sx s w n),.int .i64 (xR s)]) (λz _=>z.toNat) ⟨0,O,rfl,Z,E,b4⟩ ?_;rintro(z:Int) u ⟨n,hn,rfl,eu,hu,bu⟩;refine cQ (λN=>?_) λS=>?_
 ·have Q:n<4:=by omega
  have d:sx s w (n+1)=if s<=(4-(n:Int))*256/\w*(((4-(n:Int))*256)%s)<=(4-(n:Int))*256 then 4-(n:Int)else sx s w n:=by
   have W:([4,3,2,1]:List Int)[n]?=some (4-(n:Int)):=by
    rcases(show n=0\/n=1\/n=2\/n=3 by omega)with rfl|rfl|rfl|rfl<;>rfl
   unfold sx;rw[k7,W,wO];rfl
  refine ar O O ?_;refine KE (λr F=>F=u/\r=decide (s<=(4-(n:Int))*256/\w*(((4-(n:Int))*256)%s)<=(4-(n:Int))*256)) (λr F ⟨B,x⟩=>?_) λJ G=>?_
  ·subst B;by_cases hc:s<=(4-(n:Int))*256/\w*(((4-(n:Int))*256)%s)<=(4-(n:Int))*256
   ·rw[zJ hc]at x;rw[zC hc]at d;refine cE x (bu.s1 aA λV o1 A=>ar O O ⟨⟨n+1,O,O,eu.only o1 (.inr O),Ws o1 hu b,by rw[d];exact A⟩,O⟩)
   ·rw[zM hc]at x;rw[zB hc]at d;exact cB x (ar O O ⟨⟨n+1,O,O,eu,hu,by rw[d];exact bu⟩,O⟩)
  ·have j:=Int.emod_nonneg ((4-(n:Int))*256) (show s≠0 by omega);have K:=Int.emod_lt_of_pos ((4-(n:Int))*256) (show 0<s by omega);have Y:w*(((4-(n:Int))*256)%s)<=16*512:=Int.mul_le_mul hw2 O j O;have aa:0<=w*(((4-(n:Int))*256)%s):=Int.mul_nonneg O j;refine cQ (λh1=>ar O O (nz O ?_)) λh1=>G _ _ ⟨rfl,(zM λm=>h1 m.1).symm⟩;rw[Qz O];refine ar O O (ar O O (G _ _ ⟨rfl,?_⟩));rw[decide_eq_decide];exact⟨λm=>⟨h1,m⟩,λm=>m.2⟩
 ·have C:n=4:=by omega
  subst C;refine bu.rI rfl (bu.rI rfl (bu.rI rfl (hu.s1 aA λV o1 A=>A.s1 aA λu2 o2 D=>D.s1 aA λP o3 g=>g.rI rfl (g.rI rfl (g.rI rfl (hR P ?_))))));exact((eu.only o1 (.inr O)).only o2 (.inr O)).only o3 (.inr O)
theorem Pz (s w:Int)(h1:8<=s)(h2:s<=512)(hw1:2<=w){R:aN}(hR:8<=wc s w->wc s w<=256->R (wc s w) U):XJ.c s w U R:=by
 refine XJ.o ?_;unfold XJ.v;have g:0<=s/w/\s/w<=256:=⟨Int.ediv_nonneg O O,by
  have:s/w<=s/2:=by
   apply Int.le_ediv_of_mul_le O;have:=Int.ediv_mul_le s (show w≠0 by omega);have j:s/w*2<=s/w*w:=Int.mul_le_mul_of_nonneg_left hw1 (Int.ediv_nonneg O O);omega
  omega⟩
 refine ZY (a:=bN) (λ(d:Int) u=>u=U/\∃n:Nat,vP n d (s/w)=wc s w/\8<=d/\d<=256/\512<=d*2^n) (λd _=>1000-d.toNat) ⟨rfl,8,rfl,O,O,by decide⟩ ?_;rintro(d:Int) u ⟨rfl,n,hst,hd1,hd2,hdn⟩;refine ar O O (nz O (ar (by rw[Yq O];omega) (by rw[Yq O];omega) ?_));rw[Yq O];cases n with
 | zero=>simp at hdn;omega
 | succ n=>
  refine cQ (λe=>ar O O ⟨⟨rfl,n,?_,O,O,?_⟩,O⟩) λb=>?_
  ·rw[vP,zC e]at hst;exact hst
  ·rw[Int.pow_succ]at hdn;have:2*d*2^n=d*(2^n*2):=by rw[Int.mul_comm 2 d,Int.mul_assoc,Int.mul_comm 2 (2^n)]
   omega
  ·rw[vP,zB b]at hst;rw[←hst]at hR;exact hR hd1 hd2
theorem Fp (x:T3)(h1:8<=x.1)(h2:x.1<=512)(h3:1<=x.2.1)(h4:x.2.1<=4){R:aN}(hR:∀σ',bK U σ'->R (mn x) σ'):WN.c x.1 x.2.1 x.2.2 U R:=by
 refine WN.o ?_;unfold WN.v;refine nw (cs:=[.int .i64 x.1,.int .i64 x.2.1,.int .i64 x.2.2]) λv p e j=>?_;refine ZY (a:=bN) (λ(n:Int) u=>bK U u/\bY u U.size [.int .i64 x.1,.int .i64 x.2.1,.int .i64 x.2.2]/\0<=n/\n<=128/\n*x.1<=x.2.1*256) (λn _=>1000-n.toNat) ⟨e,j,O,O,O⟩ ?_;rintro(n:Int) u ⟨eu,bu,hn0,hn1,hn⟩;have w:(n+1)*x.1<=129*512:=Int.mul_le_mul O h2 O O;have g:0<=(n+1)*x.1:=Int.mul_nonneg O O;refine ar O O (bu.rI rfl (ar O O (bu.rI rfl (ar O O ?_))));refine cQ (λb=>ar O O ⟨⟨eu,bu,O,?_,b⟩,O⟩) λm=>?_
 ·have:(n+1)*8<=(n+1)*x.1:=Int.mul_le_mul_of_nonneg_left h1 O;omega
 ·have:mn x=n:=by
   unfold mn;have s:n<=x.2.1*256/x.1:=(Int.le_ediv_iff_mul_le O).2 hn;have r:x.2.1*256/x.1<n+1:=(Int.ediv_lt_iff_lt_mul O).2 O;omega
  have d:=hR u eu;rw[this]at d;exact d
end Go.Ar