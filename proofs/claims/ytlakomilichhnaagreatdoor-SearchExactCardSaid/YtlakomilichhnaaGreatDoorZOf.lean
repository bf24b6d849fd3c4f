/- Texts of this seat's, what the claim needs of them. -/
import Derived.Test.YtlakomilichhnaaGreatDoorZOr
import Derived.Test.YtlakomilichhnaaGreatDoorZOc
import Derived.Test.YtlakomilichhnaaGreatDoorZOg
import Derived.StillTailTactics
import Derived.Lib.MapLaws
namespace Go.Proofs.YtlakomilichhnaaGreatDoor
set_option maxRecDepth 100000
open Go.RowKit
open Go renaming Value→Ah,World→A9
open List renaming drop_succ_cons→JL,drop_zero→AM,filter_cons_of_neg→GF,filter_cons_of_pos→GE,flatMap_append→BB,foldl_append→Jb,foldl_cons→Hw,getElem?_eq_getElem→A7,getElem?_eq_some_iff→Ai,length_append→Af,length_cons→AO,mem_append→AZ,mem_cons→B9,mem_cons_of_mem→Bw,mem_flatMap→H5,mem_singleton→Bf,nil_append→D0,take_succ_cons→G3,take_succ_eq_append_getElem→Cg,take_zero→Bt
open List.Pairwise renaming nil→GK
open Option renaming none→A4,some→A2
open UInt8 renaming ofNat→DG,toNat_inj→IU
open Value renaming int→B7
namespace Rc
end Rc
namespace Ix
open Rc
abbrev OwnT (w':A9) (B:Nat) (v:Ah) (l:List By):Prop:=w'.ownsRow B 9 1 v l.length (l.map Tx.sv)
theorem own_sla {w:A9}{B:Nat}{v:Ah}{l:List By} (h:OwnT w B v l):∃ a c,v=.slice a l.length c∧SLA w a c (l.map fun x=>(⟨x.toArray⟩:ByteArray)):=by
 obtain⟨a,c,e,hs⟩:=SLA.of_own (xs:=l.map fun x=>(⟨x.toArray⟩:ByteArray)) h (by rw[List.map_map];rfl)
 rw[List.length_map]at e
 exact⟨a,c,e,hs⟩
open Rc
def wordsF (f:Fl) (codes:By):List By:=(allV f.subs codes).flatMap fun s=>Tx.words s.data.toList
open Rc
structure Mod (fs:List Fl):Prop where
 len:fs.length≤70
 subs:∀ f∈fs,f.subs.length≤1000
 size:∀ f∈fs,∀ x∈f.subs,x.2.size≤100000
 words:∀ f∈fs,∀ codes,(wordsF f codes).length≤12500
def pick (p:Fl→Bool) (codes:By) (fs:List Fl):List By:=(fs.filter p).flatMap fun f=>wordsF f codes
theorem pick_take {p:Fl→Bool}{codes:By}{fs:List Fl}{k:Nat}{f:Fl} (h:fs[k]?=A2 f):pick p codes (fs.take (k+1))=pick p codes (fs.take k)++(if p f=true then wordsF f codes else []):=by
 have hlt:=(Ai.1 h).1
 unfold pick
 rw[Cg hlt,List.filter_append,BB]
 rw[A7 hlt]at h
 injection h with h
 rw[h]
 congr 1
 by_cases hp:p f=true
 ·rw[if_pos hp,GE hp];simp
 ·rw[if_neg hp,GF hp];rfl
theorem pick_le {p:Fl→Bool}{codes:By}:∀ {fs:List Fl},(∀ f∈fs,(wordsF f codes).length≤12500)→(pick p codes fs).length≤12500*fs.length
 | [],_=>Nat.zero_le _
 | f::fs,h=>by
  have ih:=pick_le (p:=p) (codes:=codes) (fs:=fs) (fun g hg=>h g (Bw _ hg))
  have h1:=h f (List.mem_cons_self ..)
  unfold pick at ih ⊢
  by_cases hp:p f=true
  ·rw[GE hp,List.flatMap_cons,Af,AO]
   omega
  ·rw[GF hp,AO]
   omega
theorem own_lower {w:A9}{B B2:Nat}{v:Ah}{l:List By} (h:OwnT w B2 v l) (hB:B≤B2):OwnT w B v l:=⟨h.1,by
 rcases h.2 with h1 | ⟨g,cap,cur,h1,h2,h3,h4⟩
 ·exact .inl h1
 ·exact .inr ⟨g,cap,cur,h1,by omega,h3,h4⟩⟩
open Rc
def begB (d:UInt8) (f:Fl):Bool:=f.tag.data.toList.head? == A2 d
def plainB:By→By
 | []=>[]
 | c::r=>if c=45∨c=32 then plainB r
  else if c=194∧r.head?=A2 160 then plainB r.tail
  else if 65≤c.toNat∧c.toNat≤90 then (c+32)::plainB r
  else c::plainB r
termination_by l => l.length
decreasing_by all_goals simp <;> omega
theorem plainB_nil:plainB []=[]:=by rw[plainB]
theorem plainB_cons (c:UInt8) (r:By):plainB (c::r)=if c=45∨c=32 then plainB r
  else if c=194∧r.head?=A2 160 then plainB r.tail
  else if 65≤c.toNat∧c.toNat≤90 then (c+32)::plainB r
  else c::plainB r:=by rw[plainB]
open Rc
def authB (f:Fl):Bool:=tagIs [49,48,48] f||tagIs [49,49,48] f||tagIs [55,48,48] f||tagIs [55,49,48] f
def numB (f:Fl):Bool:=tagIs [48,50,48] f||tagIs [48,50,50] f
def numF (f:Fl):List By:=((allV f.subs [97]).map fun s=>plainB s.data.toList).filter fun x=>!(x == [])
def term (fs:List Fl):Nat→List By
 | 1=>pick (tagIs [50,52,53]) [97,98,110,112] fs++pick (tagIs [50,52,54]) [97,98] fs
 | 2=>pick authB [97] fs
 | 3=>pick (begB 54) [97,120,121,122] fs
 | 4=>(fs.filter numB).flatMap numF
 | _=>[]
def terms (fs:List Fl) (fld:Int):List By :=
 if fld=0 then (((term fs 1++term fs 2)++term fs 3)++term fs 4)++pick (begB 53) [97] fs
 else if 1≤fld∧fld≤4 then term fs fld.toNat else []
theorem pick_len {p:Fl→Bool}{codes:By}{fs:List Fl} (h:Mod fs):(pick p codes fs).length≤1000000:=by
 have h1:=pick_le (p:=p) (codes:=codes) (fs:=fs) (fun g hg=>h.words g hg _)
 have:=h.len
 omega
open Rc
def placesF:Nat→List By→By→List Int
 | _,[],_=>[]
 | k,y::t,x=>if y=x then (k:Int)::placesF (k+1) t x else placesF (k+1) t x
def places (t:List By) (x:By):List Int:=placesF 0 t x
theorem placesF_snoc (x y:By):∀ (t:List By) (k:Nat),placesF k (t++[y]) x=placesF k t x++(if y=x then [((k+t.length:Nat):Int)] else [])
 | [],k=>by by_cases h:y=x <;> simp[placesF,h]
 | z::t,k=>by
  have ih:=placesF_snoc x y t (k+1)
  rw[List.cons_append,placesF,placesF,ih,AO,show k+1+t.length=k+(t.length+1) by omega]
  by_cases h:z=x
  ·rw[if_pos h,if_pos h];rfl
  ·rw[if_neg h,if_neg h]
theorem take_snoc {α:Type}{t:List α}{k:Nat}{y:α} (h:t[k]?=A2 y):t.take (k+1)=t.take k++[y]:=by
 have hlt:=(Ai.1 h).1
 rw[Cg hlt]
 rw[A7 hlt]at h
 injection h with h
 rw[h]
theorem places_take {t:List By}{k:Nat}{y:By} (x:By) (h:t[k]?=A2 y):places (t.take (k+1)) x=places (t.take k) x++(if y=x then [(k:Int)] else []):=by
 have hlt:=(Ai.1 h).1
 unfold places
 rw[take_snoc h,placesF_snoc,List.length_take,Nat.min_eq_left (by omega),Nat.zero_add]
theorem placesF_len (x:By):∀ (t:List By) (k:Nat),(placesF k t x).length≤t.length
 | [],_=>Nat.le_refl _
 | y::t,k=>by
  have:=placesF_len x t (k+1)
  unfold placesF
  split <;> simp <;> omega
theorem places_len (t:List By) (x:By):(places t x).length≤t.length:=placesF_len x t 0
theorem placesF_nil {x:By}:∀ {t:List By}{k:Nat},x ∉ t→placesF k t x=[]
 | [],_,_=>rfl
 | y::t,k,h=>by
  rw[B9,not_or]at h
  unfold placesF
  rw[if_neg (fun e=>h.1 e.symm)]
  exact placesF_nil h.2
theorem placesF_mem {x:By}:∀ {t:List By}{k:Nat}{n:Int},n∈placesF k t x↔∃ j:Nat,n=((k+j:Nat):Int)∧t[j]?=A2 x
 | [],k,n=>by simp[placesF]
 | y::t,k,n=>by
  have ih:=@placesF_mem x t (k+1) n
  unfold placesF
  constructor
  ·intro h
   by_cases hy:y=x
   ·rw[if_pos hy,B9]at h
    rcases h with h | h
    ·exact⟨0,h,by simp[hy]⟩
    ·obtain⟨j,h1,h2⟩:=ih.1 h
     exact⟨j+1,by rw[h1];congr 1;omega,by simpa using h2⟩
   ·rw[if_neg hy]at h
    obtain⟨j,h1,h2⟩:=ih.1 h
    exact⟨j+1,by rw[h1];congr 1;omega,by simpa using h2⟩
  ·rintro⟨j,h1,h2⟩
   cases j with
   | zero =>
    have hy:y=x:=by simpa using h2
    rw[if_pos hy]
    exact List.mem_cons.2 (.inl h1)
   | succ j =>
    have h3:=ih.2 ⟨j,by rw[h1];congr 1;omega,by simpa using h2⟩
    split
    ·exact Bw _ h3
    ·exact h3
def firsts (t:List By):List By:=t.foldl (fun acc x=>if x∈acc then acc else acc++[x]) []
theorem firsts_snoc (t:List By) (x:By):firsts (t++[x])=if x∈firsts t then firsts t else firsts t++[x]:=by
 unfold firsts
 rw[Jb]
 rfl
theorem firsts_fold_mem (x:By):∀ (t acc:List By),x∈t.foldl (fun acc x=>if x∈acc then acc else acc++[x]) acc↔x∈acc∨x∈t
 | [],acc=>by simp
 | y::t,acc=>by
  rw[Hw,firsts_fold_mem x t]
  split
  ·rename_i hy
   constructor
   ·rintro (h | h)
    ·exact .inl h
    ·exact .inr (Bw _ h)
   ·rintro (h | h)
    ·exact .inl h
    ·rcases B9.1 h with h | h
     ·rw[h];exact .inl hy
     ·exact .inr h
  ·simp only[AZ,B9,List.not_mem_nil,or_false]
   constructor
   ·rintro ((h | h) | h)
    ·exact .inl h
    ·exact .inr (.inl h)
    ·exact .inr (.inr h)
   ·rintro (h | h | h)
    ·exact .inl (.inl h)
    ·exact .inl (.inr h)
    ·exact .inr h
theorem firsts_mem {t:List By}{x:By}:x∈firsts t↔x∈t:=by
 unfold firsts
 rw[firsts_fold_mem]
 simp
theorem firsts_take {t:List By}{k:Nat}{y:By} (h:t[k]?=A2 y):firsts (t.take (k+1))=firsts (t.take k)++(if y∈t.take k then [] else [y]):=by
 rw[take_snoc h,firsts_snoc]
 by_cases hm:y∈t.take k
 ·rw[if_pos (firsts_mem.2 hm),if_pos hm,List.append_nil]
 ·rw[if_neg (fun h9=>hm (firsts_mem.1 h9)),if_neg hm]
theorem firsts_nodup:∀ t:List By,(firsts t).Nodup:=by
 have gen:∀ (t acc:List By),acc.Nodup→(t.foldl (fun acc x=>if x∈acc then acc else acc++[x]) acc).Nodup:=by
  intro t
  induction t with
  | nil=>intro acc h;exact h
  | cons y t ih =>
   intro acc h
   rw[Hw]
   refine ih _ ?_
   split
   ·exact h
   ·rename_i hy
    rw[List.nodup_append]
    exact⟨h,by simp,fun a ha b hb=>by rw[Bf]at hb;rw[hb];intro e;exact hy (e▸ha)⟩
 exact fun t=>gen t [] List.nodup_nil
def mkp (f id:Int) (t:List By) (x:By):Post:=⟨f,x,id,places t x⟩
def fposts (f id:Int) (t:List By):List Post:=(firsts t).map (mkp f id t)
def posts (r:Rd):List Post:=fposts 0 r.id (terms r.fields 0)++(fposts 1 r.id (terms r.fields 1)++(fposts 2 r.id (terms r.fields 2)++(fposts 3 r.id (terms r.fields 3)++fposts 4 r.id (terms r.fields 4))))
theorem fposts_mem {f id:Int}{t:List By}{p:Post}:p∈fposts f id t↔p.fld=f∧p.id=id∧p.word∈t∧p.at_=places t p.word:=by
 unfold fposts
 rw[List.mem_map]
 constructor
 ·rintro⟨x,hx,rfl⟩
  exact⟨rfl,rfl,firsts_mem.1 hx,rfl⟩
 ·rintro⟨h1,h2,h3,h4⟩
  refine⟨p.word,firsts_mem.2 h3,?_⟩
  cases p
  simp only at h1 h2 h4
  subst h1 h2 h4
  rfl
theorem posts_mem {r:Rd}{p:Post}:p∈posts r↔0≤p.fld∧p.fld≤4∧p.id=r.id∧p.word∈terms r.fields p.fld∧p.at_=places (terms r.fields p.fld) p.word:=by
 unfold posts
 simp only[AZ,fposts_mem]
 constructor
 ·rintro (⟨h1,h2,h3,h4⟩ | ⟨h1,h2,h3,h4⟩ | ⟨h1,h2,h3,h4⟩ | ⟨h1,h2,h3,h4⟩ | ⟨h1,h2,h3,h4⟩) <;> rw[h1] <;> exact⟨by omega,by omega,h2,h3,h4⟩
 ·rintro⟨h1,h2,h3,h4,h5⟩
  rcases (by omega:p.fld=0∨p.fld=1∨p.fld=2∨p.fld=3∨p.fld=4) with h | h | h | h | h <;> rw[h]at h4 h5
  ·exact .inl ⟨h,h3,h4,h5⟩
  ·exact .inr (.inl ⟨h,h3,h4,h5⟩)
  ·exact .inr (.inr (.inl ⟨h,h3,h4,h5⟩))
  ·exact .inr (.inr (.inr (.inl ⟨h,h3,h4,h5⟩)))
  ·exact .inr (.inr (.inr (.inr ⟨h,h3,h4,h5⟩)))
theorem fposts_own (f id:Int) (t:List By):Ownk (fposts f id t):=by
 unfold fposts Ownk
 rw[List.pairwise_map]
 exact (firsts_nodup t).imp fun h e=>h e.2.1
theorem ownk_app {a b:List Post} (ha:Ownk a) (hb:Ownk b) (h:∀ x∈a,∀ y∈b,¬ sameK x y):Ownk (a++b):=List.pairwise_append.2 ⟨ha,hb,h⟩
theorem posts_own (r:Rd):Ownk (posts r):=by
 have key:∀ (f g:Int) (s t:List By),f≠g→∀ x∈fposts f r.id s,∀ y∈fposts g r.id t,¬ sameK x y:=fun f g s t hne x hx y hy e=>by
  have h1:=(fposts_mem.1 hx).1
  have h2:=(fposts_mem.1 hy).1
  have h3:=e.1
  omega
 unfold posts
 refine ownk_app (fposts_own ..) (ownk_app (fposts_own ..) (ownk_app (fposts_own ..) (ownk_app (fposts_own ..) (fposts_own ..) ?_) ?_) ?_) ?_
 ·exact key _ _ _ _ (by decide)
 ·intro x hx y hy
  rcases AZ.1 hy with hy | hy <;> exact key _ _ _ _ (by decide) x hx y hy
 ·intro x hx y hy
  rcases AZ.1 hy with hy | hy
  ·exact key _ _ _ _ (by decide) x hx y hy
  ·rcases AZ.1 hy with hy | hy <;> exact key _ _ _ _ (by decide) x hx y hy
 ·intro x hx y hy
  rcases AZ.1 hy with hy | hy
  ·exact key _ _ _ _ (by decide) x hx y hy
  ·rcases AZ.1 hy with hy | hy
   ·exact key _ _ _ _ (by decide) x hx y hy
   ·rcases AZ.1 hy with hy | hy <;> exact key _ _ _ _ (by decide) x hx y hy
def known (x:List Post) (id:Int):Bool:=x.any fun p=>p.id == id
def add (x:List Post) (r:Rd):List Post:=if r.id<1∨known x r.id=true then x else (posts r).foldl ins x
def met (l:List Rd) (k:Nat) (r:Rd):Bool:=(l.take k).any fun q=>q.id == r.id
def bld (l:List Rd):Nat→List Post
 | 0=>[]
 | k+1=>match l[k]? with
  | some r=>if met l k r=true then bld l k else add (bld l k) r
  | none=>bld l k
def build (l:List Rd):List Post:=bld l l.length
theorem bld_succ {l:List Rd}{k:Nat}{r:Rd} (h:l[k]?=A2 r):bld l (k+1)=if met l k r=true then bld l k else add (bld l k) r:=by rw[bld,h]
def chs (l:List Rd):Nat→List Rd
 | 0=>[]
 | k+1=>match l[k]? with
  | some r=>if r.id<1∨met l k r=true then chs l k else chs l k++[r]
  | none=>chs l k
theorem chs_succ {l:List Rd}{k:Nat}{r:Rd} (h:l[k]?=A2 r):chs l (k+1)=if r.id<1∨met l k r=true then chs l k else chs l k++[r]:=by rw[chs,h]
theorem chs_mem {l:List Rd}:∀ {k:Nat}{r:Rd},r∈chs l k→1≤r.id∧r∈l.take k
 | 0,r,h=>by cases h
 | k+1,r,h=>by
  cases hk:l[k]? with
  | none =>
   rw[chs,hk]at h
   have:=chs_mem h
   exact⟨this.1,List.mem_of_mem_take (i:=k) (by rw[List.take_take,Nat.min_eq_left (by omega)];exact this.2)⟩
  | some q =>
   rw[chs_succ hk]at h
   rw[take_snoc hk,AZ]
   split at h
   ·exact⟨(chs_mem h).1,.inl (chs_mem h).2⟩
   ·rename_i hn
    rcases AZ.1 h with h | h
    ·exact⟨(chs_mem h).1,.inl (chs_mem h).2⟩
    ·rw[Bf]at h
     subst h
     exact⟨by omega,.inr (by simp)⟩
theorem known_iff {x:List Post}{id:Int}:known x id=true↔∃ p∈x,p.id=id:=by
 unfold known
 simp
theorem met_iff {l:List Rd}{k:Nat}{r:Rd}:met l k r=true↔∃ q∈l.take k,q.id=r.id:=by
 unfold met
 simp
theorem posts_id {r:Rd}{p:Post} (h:p∈posts r):p.id=r.id:=(posts_mem.1 h).2.2.1
theorem chs_own (l:List Rd):∀ k,Ownk ((chs l k).flatMap posts)
 | 0=>GK
 | k+1=>by
  cases hk:l[k]? with
  | none=>rw[chs,hk];exact chs_own l k
  | some q =>
   rw[chs_succ hk]
   split
   ·exact chs_own l k
   ·rename_i hn
    rw[BB]
    refine ownk_app (chs_own l k) (by simpa using posts_own q) fun x hx y hy e=>?_
    obtain⟨r,hr,hx⟩:=H5.1 hx
    replace hy:y∈posts q:=by simpa using hy
    refine hn (.inr (met_iff.2 ⟨r,(chs_mem hr).2,?_⟩))
    rw[← posts_id hx,← posts_id hy]
    exact e.2.2
theorem bld_eq (l:List Rd):∀ k,bld l k=((chs l k).flatMap posts).foldl ins []
 | 0=>rfl
 | k+1=>by
  have ih:=bld_eq l k
  cases hk:l[k]? with
  | none=>rw[bld,hk,chs,hk];exact ih
  | some r =>
   rw[bld_succ hk,chs_succ hk]
   by_cases hm:met l k r=true
   ·rw[if_pos hm,if_pos (.inr hm)];exact ih
   ·rw[if_neg hm]
    unfold add
    by_cases h1:r.id<1
    ·rw[if_pos (.inl h1),if_pos (.inl h1)];exact ih
    ·have hkn:¬ known (bld l k) r.id=true:=by
      intro h9
      obtain⟨p,hp,e⟩:=known_iff.1 h9
      rw[ih]at hp
      have hp2:=(fold_perm _ _).mem_iff.1 hp
      rw[D0]at hp2
      obtain⟨q,hq,hp3⟩:=H5.1 hp2
      exact hm (met_iff.2 ⟨q,(chs_mem hq).2,by rw[← posts_id hp3];exact e⟩)
     rw[if_neg (by rintro (h | h);exact h1 h;exact hkn h),if_neg (by rintro (h | h);exact h1 h;exact hm h),BB,Jb,ih]
     simp
theorem bld_asc (l:List Rd) (k:Nat):Asc (bld l k):=by
 rw[bld_eq]
 exact fold_asc _ _ GK (by rw[D0];exact chs_own l k)
theorem build_sorted {l:List Rd}{s:List Post} (hp:s.Perm ((chs l l.length).flatMap posts)) (hs:s.Pairwise fun x y=>ltK y x=false):s=build l:=by
 unfold build
 rw[bld_eq]
 exact sorted_eq (acc:=[]) GK (by rw[D0];exact chs_own l _) (by rw[D0];exact hp) hs
def word (x:List Post) (f:Int) (s:By):List Int:=Cp.puts Cp.ltI ((x.filter fun p=>decide (p.fld=f)&&(p.word == s)).map (·.id))
def begP (s w:By):Bool:=w.take s.length == s
def prefix_ (x:List Post) (f:Int) (s:By):List Int:=Cp.puts Cp.ltI ((x.filter fun p=>!(s == [])&&(decide (p.fld=f)&&begP s p.word)).map (·.id))
def at_ (x:List Post) (f:Int) (s:By) (id start:Int) (far:Nat):Bool:=x.any fun p=>decide (p.fld=f)&&(p.word == s)&&(p.id == id)&&p.at_.any fun n=>decide (IntKind.i64.wrap (n - far)=start)
def folF (x:List Post) (f id start:Int):Nat→List By→Bool
 | _,[]=>true
 | j,s::l=>at_ x f s id start j&&folF x f id start (j+1) l
def phr (x:List Post) (f:Int) (ws:List By):List Int:=match ws with
 | []=>[]
 | s::l=>(x.filter fun p=>decide (p.fld=f)&&(p.word == s)).flatMap fun p=>(p.at_.filter fun n=>folF x f p.id n 1 l).map fun _=>p.id
def phrase (x:List Post) (f:Int) (ws:List By):List Int:=Cp.puts Cp.ltI (phr x f ws)
end Ix
theorem info_int:(Tryz.prog.info? 3).map (fun i=>(i.zero,i.size,i.bytes))=A2 (A2 (.int .i64 0),1,8):=by kernel_rfl
theorem info_post:(Tryz.prog.info? 100).map (fun i=>(i.zero,i.size,i.bytes))=A2 (A2 (.agg #[.int .i64 0,.string ⟨#[]⟩,.int .i64 0,.slice A4 0 0]),4,56):=by kernel_rfl
namespace Ix
open Rc
abbrev IA (w:A9) (a:Option Addr) (c:Nat) (xs:List Int):Prop:=Br.FA (fun x:Int=>[B7 .i64 x]) 1 w a c xs
theorem flat_int (xs:List Int):xs.flatMap (fun x=>[B7 .i64 x])=xs.map (B7 .i64):=by
 induction xs with
 | nil=>rfl
 | cons x r ih=>simp[ih]
theorem IA.of_own {w:A9}{B e n:Nat}{v:Ah}{xs:List Int} (h:w.ownsRow B e 1 v n (xs.map (B7 .i64))) (hn:n=xs.length):∃ a c,v=.slice a xs.length c∧IA w a c xs∧(∀ g,a=A2 g→B≤g.block):=by
 obtain⟨a,c,e1,h1,h2⟩:=Br.FA.of_own (enc:=fun x:Int=>[B7 .i64 x]) (fun _=>rfl) (by rw[flat_int];exact h) hn
 exact⟨a,c,e1,h1,h2⟩
theorem IA.cell {w:A9}{a:Option Addr}{c:Nat}{xs:List Int} (h:IA w a c xs) {k:Nat}{x:Int} (hk:xs[k]?=A2 x):∃ b o,a=A2 ⟨b,o,A4⟩∧b<w.heap.size∧w.cell? ⟨b,o+k,A4⟩=A2 (.int .i64 x):=by
 obtain⟨b,o,h1,h2,h3⟩:=h.get hk
 have:=h3 0 _ rfl
 rw[Nat.mul_one,Nat.add_zero]at this
 exact⟨b,o,h1,h2,this⟩
abbrev PT:=Post × Option Addr × Nat
abbrev encP (t:PT):List Ah:=[.int .i64 t.1.fld,.string ⟨t.1.word.toArray⟩,.int .i64 t.1.id,.slice t.2.1 t.1.at_.length t.2.2]
theorem encP_len (t:PT):(encP t).length=4:=rfl
theorem p_one (t:PT):∀ u∈encP t,u.oneCell'=true:=by simp[encP,Value.oneCell']
def Ats (w:A9) (T:List PT):Prop:=∀ t∈T,IA w t.2.1 t.2.2 t.1.at_
theorem Ats.below {w w':A9}{T:List PT} (h:Ats w T) (hb:Below w.heap.size w w'):Ats w' T:=fun t ht=>(h t ht).below hb
structure PsA (w:A9) (a:Option Addr) (c:Nat) (T:List PT):Prop where
 fa:Br.FA encP 4 w a c T
 ats:Ats w T
theorem PsA.below {w w':A9}{a:Option Addr}{c:Nat}{T:List PT} (h:PsA w a c T) (hb:Below w.heap.size w w'):PsA w' a c T:=⟨h.fa.below hb,h.ats.below hb⟩
theorem PsA.get {w:A9}{a:Option Addr}{c:Nat}{T:List PT} (h:PsA w a c T) {k:Nat}{t:PT} (hk:T[k]?=A2 t) :
  ∃ b o,a=A2 ⟨b,o,A4⟩∧b<w.heap.size∧w.cell? ⟨b,o+k*4,A4⟩=A2 (.int .i64 t.1.fld)∧w.cell? ⟨b,o+k*4+1,A4⟩=A2 (.string ⟨t.1.word.toArray⟩)∧w.cell? ⟨b,o+k*4+2,A4⟩=A2 (.int .i64 t.1.id) ∧
   w.cell? ⟨b,o+k*4+3,A4⟩=A2 (.slice t.2.1 t.1.at_.length t.2.2)∧IA w t.2.1 t.2.2 t.1.at_:=by
 obtain⟨b,o,h1,h2,h3⟩:=h.fa.get hk
 exact⟨b,o,h1,h2,h3 0 _ rfl,h3 1 _ rfl,h3 2 _ rfl,h3 3 _ rfl,h.ats t (List.mem_of_getElem? hk)⟩
abbrev OwnP (w':A9) (B:Nat) (v:Ah) (T:List PT):Prop:=w'.ownsRow B 100 4 v T.length (T.flatMap encP)
theorem OwnP.ps {w:A9}{B:Nat}{v:Ah}{T:List PT} (h:OwnP w B v T) (ha:Ats w T):∃ a c,v=.slice a T.length c∧PsA w a c T∧(∀ g,a=A2 g→B≤g.block):=by
 obtain⟨a,c,e,h1,h2⟩:=Br.FA.of_own encP_len h rfl
 exact⟨a,c,e,⟨h1,ha⟩,h2⟩
theorem own_snoc {w:A9}{B:Nat}{v:Ah}{T:List PT}{t:PT} (h:w.ownsRow B 100 4 v (T.length+1) (T.flatMap encP++encP t)):OwnP w B v (T++[t]):=by
 unfold OwnP
 rw[Af,BB]
 simpa using h
theorem row_lower {w:A9}{B B2 e size n:Nat}{v:Ah}{xs:List Ah} (h:w.ownsRow B2 e size v n xs) (hB:B≤B2):w.ownsRow B e size v n xs:=⟨h.1,by
 rcases h.2 with h1 | ⟨g,cap,cur,h1,h2,h3,h4⟩
 ·exact .inl h1
 ·exact .inr ⟨g,cap,cur,h1,by omega,h3,h4⟩⟩
theorem drop_cons {α:Type}{l:List α}{k:Nat}{x:α} (h:l[k]?=A2 x):l.drop k=x::l.drop (k+1):=by
 have hlt:=(Ai.1 h).1
 rw[List.drop_eq_getElem_cons hlt]
 rw[A7 hlt]at h
 injection h with h
 rw[h]
def numC (c:Int):Int:=if c=45∨c=32∨c=160 then -1 else if 65≤c∧c≤90 then c+32 else c
theorem rdec_shape {l:By} (h:(Tx.rdec l).2≠0) (hne:l≠[]) :
  (∃ b r,l=b::r∧32≤b.toNat∧b.toNat<127∧Tx.rdec l=(b.toNat,1)) ∨
  (∃ b d r,l=b::d::r∧194≤b.toNat∧b.toNat<224∧128≤d.toNat∧d.toNat<192∧160≤(b.toNat - 192)*64+d.toNat - 128∧Tx.rdec l=((b.toNat - 192)*64+d.toNat - 128,2)) ∨
  (∃ b d e r,l=b::d::e::r∧224≤b.toNat∧b.toNat<240∧128≤d.toNat∧d.toNat<192∧128≤e.toNat∧e.toNat<192∧∃ u,2048≤u∧Tx.rdec l=(u,3)):=by
 cases l with
 | nil=>exact absurd rfl hne
 | cons b r =>
  unfold Tx.rdec Tx.rdecN at h ⊢
  simp only[List.getD_cons_zero,AO]at h ⊢
  by_cases h1:32≤b.toNat∧b.toNat<127
  ·exact .inl ⟨b,r,rfl,h1.1,h1.2,by rw[if_pos h1]⟩
  ·rw[if_neg h1]at h ⊢
   cases r with
   | nil=>simp at h
   | cons d r =>
    simp only[AO]at h ⊢
    rw[show (b::d::r).getD 1 0=d from rfl]at h ⊢
    by_cases h2:194≤b.toNat∧b.toNat<224∧1<r.length+1+1∧128≤d.toNat∧d.toNat<192
    ·rw[if_pos h2]at h ⊢
     by_cases h3:160≤(b.toNat - 192)*64+d.toNat - 128
     ·rw[if_pos h3]
      exact .inr (.inl ⟨b,d,r,rfl,h2.1,h2.2.1,h2.2.2.2.1,h2.2.2.2.2,h3,rfl⟩)
     ·rw[if_neg h3]at h
      exact absurd rfl h
    ·rw[if_neg h2]at h ⊢
     cases r with
     | nil=>simp at h
     | cons e r =>
      simp only[AO]at h ⊢
      rw[show (b::d::e::r).getD 2 0=e from rfl]at h ⊢
      by_cases h4:224≤b.toNat∧b.toNat<240∧2<r.length+1+1+1∧128≤d.toNat∧d.toNat<192∧128≤e.toNat∧e.toNat<192
      ·rw[if_pos h4]at h ⊢
       split
       ·rename_i h5
        exact .inr (.inr ⟨b,d,e,r,rfl,h4.1,h4.2.1,h4.2.2.2.1,h4.2.2.2.2.1,h4.2.2.2.2.2.1,h4.2.2.2.2.2.2,_,h5.1,rfl⟩)
       ·rename_i h5
        rw[if_neg h5]at h
        exact absurd rfl h
      ·rw[if_neg h4]at h
       exact absurd rfl h
theorem plain_high {b:UInt8} (r:By) (h1:128≤b.toNat) (h2:b.toNat≠194∨r.head?≠A2 160):plainB (b::r)=b::plainB r:=by
 rw[plainB_cons,if_neg,if_neg,if_neg]
 ·omega
 ·rintro⟨e1,e2⟩
  rcases h2 with h2 | h2
  ·rw[e1]at h2;exact h2 rfl
  ·exact h2 e2
 ·rintro (e | e) <;> rw[e]at h1 <;> simp at h1
theorem enc_low (c:Nat) (h:c<128):Lib.encodeRune (c:Int)=[DG c]:=by
 unfold Lib.encodeRune
 rw[Lib.encodeRuneZ_one (by omega) (by omega)]
 simp
theorem plain_map:∀ (n:Nat) (l:By),l.length≤n→Tx.valid l=true→Lib.mapD numC l=plainB l
 | 0,l,h,_=>by
  have:=List.eq_nil_of_length_eq_zero (by omega:l.length=0)
  subst this
  rw[Lib.mapD_nil,plainB_nil]
 | n+1,l,h,hv=>by
  by_cases hne:l=[]
  ·subst hne;rw[Lib.mapD_nil,plainB_nil]
  ·obtain⟨h0,hde,hwid,hvr,hok⟩:=Tx.valid_head hne hv
   rw[hwid]at hvr
   rcases rdec_shape h0 hne with⟨b,r,rfl,g1,g2,hr⟩ | ⟨b,d,r,rfl,g1,g2,g3,g4,g5,hr⟩ | ⟨b,d,e,r,rfl,g1,g2,g3,g4,g5,g6,u,g7,hr⟩
   ·rw[hr]at hde hvr
    have ih:=plain_map n r (by simp at h;omega) (by simpa using hvr)
    rw[Lib.mapD_step numC _ hne,hde,plainB_cons]
    simp only[JL,AM]
    rw[ih]
    by_cases c1:b=45∨b=32
    ·have hn:numC (b.toNat:Int)=-1:=by
      unfold numC
      rw[if_pos]
      rcases c1 with e | e
      ·rw[e];exact .inl rfl
      ·rw[e];exact .inr (.inl rfl)
     rw[hn,if_pos c1,if_neg (by decide)];rfl
    ·have k1:b.toNat≠45:=fun e=>c1 (.inl (IU.1 (by rw[e];rfl)))
     have k2:b.toNat≠32:=fun e=>c1 (.inr (IU.1 (by rw[e];rfl)))
     by_cases c2:65≤b.toNat∧b.toNat≤90
     ·have hn:numC (b.toNat:Int)=((b.toNat+32:Nat):Int):=by
       unfold numC
       rw[if_neg (by omega),if_pos (by omega)]
       omega
      have e2:DG (b.toNat+32)=b+32:=by
       apply IU.1
       rw[UInt8.toNat_add]
       simp
      rw[hn,if_pos (by omega),enc_low _ (by omega),e2,if_neg c1,if_neg (by rintro⟨e,_⟩;rw[e]at g2;simp at g2),if_pos c2];rfl
     ·have hn:numC (b.toNat:Int)=(b.toNat:Int):=by
       unfold numC
       rw[if_neg (by omega),if_neg (by omega)]
      rw[hn,if_pos (by omega),enc_low _ (by omega),UInt8.ofNat_toNat,if_neg c1,if_neg (by rintro⟨e,_⟩;rw[e]at g2;simp at g2),if_neg c2];rfl
   ·rw[hr]at hde hvr
    have ih:=plain_map n r (by simp at h;omega) (by simpa using hvr)
    by_cases c1:(b.toNat - 192)*64+d.toNat - 128=160
    ·have e1:b=194:=IU.1 (by show b.toNat=194;omega)
     have e2:d=160:=IU.1 (by show d.toNat=160;omega)
     subst e1 e2
     have hp:plainB (194::160::r)=plainB r:=by rw[plainB_cons,if_neg (by decide),if_pos ⟨rfl,rfl⟩];rfl
     have hn:numC ((((194:UInt8).toNat - 192)*64+(160:UInt8).toNat - 128:Nat):Int)=-1:=by decide
     rw[Lib.mapD_step numC _ hne,hde,hp]
     simp only[JL,AM]
     rw[ih,hn,if_neg (by decide)];rfl
    ·have hf:numC (((b.toNat - 192)*64+d.toNat - 128:Nat):Int)=(((b.toNat - 192)*64+d.toNat - 128:Nat):Int):=by
      unfold numC
      rw[if_neg (by omega),if_neg (by omega)]
     rw[Lib.mapD_same numC _ hne (by rw[hde];exact hf) (by rw[hde];rintro⟨_,h9⟩;cases h9),hde]
     simp only[JL,AM,G3,Bt]
     rw[ih,plain_high _ (by omega) (by
      by_cases e:b.toNat=194
      ·refine .inr (fun h9=>?_)
       simp at h9
       rw[h9]at c1
       exact c1 (by rw[e];rfl)
      ·exact .inl e),plain_high _ (by omega) (.inl (by omega))]
     rfl
   ·rw[hr]at hde hvr
    have ih:=plain_map n r (by simp at h;omega) (by simpa using hvr)
    have hf:numC (u:Int)=(u:Int):=by
     unfold numC
     rw[if_neg (by omega),if_neg (by omega)]
    rw[Lib.mapD_same numC _ hne (by rw[hde];exact hf) (by rw[hde];rintro⟨_,h9⟩;cases h9),hde]
    simp only[JL,AM,G3,Bt]
    rw[ih,plain_high _ (by omega) (.inl (by omega)),plain_high _ (by omega) (.inl (by omega)),plain_high _ (by omega) (.inl (by omega))]
    rfl
end Ix
end Go.Proofs.YtlakomilichhnaaGreatDoor
