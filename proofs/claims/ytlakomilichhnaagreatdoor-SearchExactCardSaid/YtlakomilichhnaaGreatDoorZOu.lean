/- Texts of this seat's, what the claim needs of them. -/
import Derived.Test.YtlakomilichhnaaGreatDoorZOx
import Derived.Test.YtlakomilichhnaaGreatDoorZOy
import Derived.StillTailTactics
import Derived.BigRegion
namespace Go.Proofs.YtlakomilichhnaaGreatDoor
set_option maxHeartbeats 6400000
set_option maxRecDepth 100000
open Go.RowKit
open Go renaming Addr→Ao,Calls→Ac,Value→Ah,World→A9,bodyPost_ret→DF,cell_later→A0,heap_alloc_new→Ar
open Lib renaming hid→J,indexByte→DJ,size_eq→Ak,toList_data→AA
open List renaming drop_zero→AM,eq_nil_of_length_eq_zero→Aw,flatMap_append→BB,getElem?_append_left→Eg,getElem?_append_right→CS,getElem?_eq_getElem→A7,getElem?_eq_some_iff→Ai,getElem?_map→AE,length_append→Af,length_map→At,map_map→Dp
open Nat renaming add_zero→Bs,le_refl→An,le_trans→AK,lt_of_lt_of_le→B1
open Option renaming map_eq_some_iff→BZ,none→A4,some→A2
open Proofs.Tryz renaming prog→A3,underlying27→Ft
open Qr renaming Tok→D7,begins→I5,lk→Hi,yearN→IW
open RowKit renaming Below→A6
open Tx renaming blk→Aq,blk_later→Aj,newb→Aa,retb→Ay
open UInt8 renaming ofNat→DG
open World renaming cell?_of_block→Dh,setCell→CO
open _root_.Array renaming getElem?_eq_some_iff→AN,getElem?_modify→EE
namespace Qr
abbrev encT (t:Tok):List Ah:=[.int .u8 t.k.toNat,.string ⟨t.t.toArray⟩,.bool t.g]
def GP (g:Nat) (w:A9):Prop:=∃ w0,G w0∧w0.heap.size≤g∧A6 w0.heap.size w0 w
theorem GP.g {g:Nat}{w:A9} (h:GP g w):G w:=by
 obtain⟨w0,h1,_,h3⟩:=h
 exact h1.below h3
theorem GP.fr {g:Nat}{w w':A9} (h:GP g w) (hg:g<w.heap.size) (hF:Fr g w w'):GP g w':=by
 obtain⟨w0,h1,h2,h3⟩:=h
 exact⟨w0,h1,h2,h3.trans (hF.below h2 hg)⟩
structure PS (g:Nat) (l r:List Tok) (w:A9):Prop where
 suf:r <:+ l
 len:l.length≤1000000
 ok:∀ t∈l,Tx.valid t.t=true∧t.t.length≤1000
 gp:GP g w
 blk:∃ ta tc,w.heap[g]?=A2 (.cells #[.slice ta l.length tc,.int .i64 ((l.length - r.length:Nat):Int)] 129 (0,0))∧Br.FA encT 3 w ta tc l∧(∀ ad,ta=A2 ad→ad.block<g)
theorem PS.lt {g:Nat}{l r:List Tok}{w:A9} (h:PS g l r w):g<w.heap.size:=by
 obtain⟨ta,tc,h1,_⟩:=h.blk
 exact (AN.1 h1).1
theorem PS.below {g:Nat}{l r:List Tok}{w w':A9} (h:PS g l r w) (hb:A6 w.heap.size w w'):PS g l r w':=by
 have hgp:=h.gp.fr h.lt (.of_below hb)
 obtain⟨ta,tc,h1,h2,h3⟩:=h.blk
 exact⟨h.suf,h.len,h.ok,hgp,ta,tc,Aj h1 hb,h2.below hb,h3⟩
theorem Fr.fa' {α:Type}{enc:α→List Ah}{size:Nat}{g:Nat}{w w':A9}{a:Option Ao}{c:Nat}{xs:List α} (h:Fr g w w') (hf:Br.FA enc size w a c xs) (hb:∀ ad,a=A2 ad→ad.block≠g):Br.FA enc size w' a c xs:=by
 obtain⟨b,o,h1,h2⟩:=hf.at_
 by_cases hne:xs=[]
 ·subst hne
  exact⟨hf.cap,hf.max,b,o,fun h9=>absurd rfl h9,fun j i x u hx=>by simp at hx⟩
 ·have h3:=hb _ (h1 hne).1
  exact⟨hf.cap,hf.max,b,o,fun hn=>⟨(h1 hn).1,B1 (h1 hn).2 h.size⟩,fun j i x u hx hu=>h.cell h3 (h2 j i x u hx hu)⟩
theorem blk_set1 {w:A9}{g:Nat}{v0 v1:Ah}{t:TypeId} (h:w.heap[g]?=A2 (.cells #[v0,v1] t (0,0))) (u:Ah):(w.setCell ⟨g,1,A4⟩ u).heap[g]?=A2 (.cells #[v0,u] t (0,0)):=by
 simp only[CO,EE]
 rw[h]
 simp
theorem PS.adv {g:Nat}{l r r':List Tok}{w:A9} (h:PS g l r w) (hr:r' <:+ r) {m:Int} (hm:m=((l.length - r'.length:Nat):Int)):PS g l r' (w.setCell ⟨g,1,A4⟩ (.int .i64 m)):=by
 have hF:Fr g w (w.setCell ⟨g,1,A4⟩ (.int .i64 m)):=(Fr.refl g w).set rfl _
 have hgp:=h.gp.fr h.lt hF
 obtain⟨ta,tc,h1,h2,h3⟩:=h.blk
 exact⟨hr.trans h.suf,h.len,h.ok,hgp,ta,tc,by rw[hm];exact blk_set1 h1 _,hF.fa' h2 (fun ad e=>by have:=h3 ad e;omega),h3⟩
theorem PS.cells {g:Nat}{l r:List Tok}{w:A9} (h:PS g l r w):∃ ta tc,w.cell? ⟨g,0,A4⟩=A2 (.slice ta l.length tc)∧w.cell? ⟨g,1,A4⟩=A2 (.int .i64 ((l.length - r.length:Nat):Int))∧∀ i,w.frozen? ⟨g,i,A4⟩=false:=by
 obtain⟨ta,tc,h1,_,_⟩:=h.blk
 obtain⟨c,f,_⟩:=Aq h1
 exact⟨ta,tc,c 0,c 1,f⟩
abbrev wrongP:Ah:=.iface 132 (.agg #[])
theorem suf_at {l r:List Tok} (h:r <:+ l) (n:Nat):l[l.length - r.length+n]?=r[n]?:=by
 obtain⟨p,rfl⟩:=h
 rw[Af,Nat.add_sub_cancel,CS (by omega)]
 congr 1
 omega
theorem lk_drop {r:List Tok}{n:Nat}:lk (r.drop n)=(r[n]?).getD ⟨0,[],false⟩:=by
 unfold lk
 rw[List.headD_eq_head?_getD,List.head?_drop]
end Qr
theorem Tx.drawn {B:Nat}{a w:A9} (h:A6 B a w) (n:Nat):A6 B a (w.drewN n):=⟨h.os,h.tape,h.output,h.size,h.block⟩
theorem Tx.put3 {B g:Nat}{w wr:A9} (h:A6 B w wr) (hg:B≤g) (v0 v1 v2:Ah):A6 B w (((wr.setCell ⟨g,0,A4⟩ v0).setCell ⟨g,1,A4⟩ v1).setCell ⟨g,2,A4⟩ v2) :=
 ((h.setCell hg _).setCell hg _).setCell hg _
theorem look_c (g n:Nat) (m:Int) (l r:List D7) (w:A9) (hm:m=(n:Int)) (hn:n≤1) (hP:Qr.PS g l r w) :
  Ac A3 252 #[.pointer (A2 ⟨g,0,A4⟩),.int .i64 m] w fun e w'=>e=.returned (.agg #[.int .u8 (Hi (r.drop n)).k.toNat,.string ⟨(Hi (r.drop n)).t.toArray⟩,.bool (Hi (r.drop n)).g])∧A6 w.heap.size w w':=by
 obtain⟨ta,tc,hblk,hFA,hne⟩:=hP.blk
 have hsl:=hP.suf.length_le
 have hll:=hP.len
 have hcap:=hFA.cap
 have hmx:maxLen=9223372036854775807:=rfl
 have hmax:=hFA.max
 obtain⟨A,hA⟩:∃ A,l.length - r.length=A:=⟨_,rfl⟩
 have hAt:=Qr.suf_at hP.suf n
 rw[hA]at hblk hAt
 subst hm
 have hw1:=IntWalk.i64_in ((A:Int)+(n:Int)) ⟨by omega,by omega⟩
 obtain⟨W,hW⟩:∃ W,w.alloc (.cells #[.int .u8 0,.string ⟨#[]⟩,.bool false] 205)=W:=⟨_,rfl⟩
 have hB:A6 w.heap.size w W:=by rw[← hW];exact Aa _ _
 obtain⟨bc,bf,bl⟩:=Aq (Aj hblk hB)
 obtain⟨rc,rf,rl⟩:=Aq (show W.heap[w.heap.size]?=A2 (.cells #[.int .u8 0,.string ⟨#[]⟩,.bool false] 205 (0,0)) by rw[← hW];exact Ar _ _)
 have f0:W.cell? ⟨g,0,A4⟩=A2 (.slice ta l.length tc):=bc 0
 have f1:W.cell? ⟨g,1,A4⟩=A2 (.int .i64 (A:Int)):=bc 1
 have c0:W.cell? ⟨w.heap.size,0,A4⟩=A2 (.int .u8 0):=rc 0
 have c1:W.cell? ⟨w.heap.size,1,A4⟩=A2 (.string ⟨#[]⟩):=rc 1
 have c2:W.cell? ⟨w.heap.size,2,A4⟩=A2 (.bool false):=rc 2
 clear bc bf rc
 rw[Qr.lk_drop]
 cases hr:r[n]? with
 | none =>
  rw[hr]at hAt
  have hge:l.length≤A+n:=List.getElem?_eq_none_iff.1 hAt
  have g1:¬ ((A:Int)+n<(l.length:Int)):=by omega
  clear hP hblk hFA hne hAt hr hA
  rw[Option.getD_none]
  go_enter Tryz.func252,Tryz.ntmps252
  go_wp2
  go_quiet (fail)
  go_wp2
  refine DF (v:=.agg #[.int .u8 0,.string ⟨#[]⟩,.bool false]) (by simp[results,Tryz.results252,go_sem,c0,c1,c2]) rfl ⟨rfl,Tx.put3 (Tx.drawn hB _) (An _) _ _ _⟩
 | some t =>
  rw[hr]at hAt
  have hlt:A+n<l.length:=(Ai.1 hAt).1
  have g1:(A:Int)+n<(l.length:Int):=by omega
  obtain⟨b,o,rfl,hbl,hc⟩:=(hFA.below hB).get hAt
  have d0:=hc 0 _ rfl
  have d1:=hc 1 _ rfl
  have d2:=hc 2 _ rfl
  obtain⟨N,hN⟩:∃ N,A+n=N:=⟨_,rfl⟩
  have hNi:(A:Int)+(n:Int)=(N:Int):=by omega
  rw[hN]at d0 d1 d2
  rw[hNi]at hw1 g1
  rw[Bs]at d0
  clear hP hblk hFA hne hAt hr hA hc
  rw[Option.getD_some]
  have HN:=J hNi
  go_enter Tryz.func252,Tryz.ntmps252
  go_wp2
  go_quiet (fail)
  go_wp2
  have hb2:=Tx.drawn hB nq
  replace f0:(W.drewN nq).cell? ⟨g,0,A4⟩=A2 (.slice (A2 ⟨b,o,A4⟩) l.length tc):=f0
  replace f1:(W.drewN nq).cell? ⟨g,1,A4⟩=A2 (.int .i64 (A:Int)):=f1
  replace c0:(W.drewN nq).cell? ⟨w.heap.size,0,A4⟩=A2 (.int .u8 0):=c0
  replace c1:(W.drewN nq).cell? ⟨w.heap.size,1,A4⟩=A2 (.string ⟨#[]⟩):=c1
  replace c2:(W.drewN nq).cell? ⟨w.heap.size,2,A4⟩=A2 (.bool false):=c2
  replace d0:(W.drewN nq).cell? ⟨b,o+N*3,A4⟩=A2 (.int .u8 t.k.toNat):=d0
  replace d1:(W.drewN nq).cell? ⟨b,o+N*3+1,A4⟩=A2 (.string ⟨t.t.toArray⟩):=d1
  replace d2:(W.drewN nq).cell? ⟨b,o+N*3+2,A4⟩=A2 (.bool t.g):=d2
  replace rf:∀ i,(W.drewN nq).frozen? ⟨w.heap.size,i,A4⟩=false:=rf
  generalize W.drewN nq=W2 at *
  clear hB bl rl hbl hW
  go_still_tail 12,(by kernel_rfl)
  change wpList _ _ _ _ _ W2.drew
  replace c0:W2.drew.cell? ⟨w.heap.size,0,A4⟩=A2 (.int .u8 0):=c0
  replace c1:W2.drew.cell? ⟨w.heap.size,1,A4⟩=A2 (.string ⟨#[]⟩):=c1
  replace c2:W2.drew.cell? ⟨w.heap.size,2,A4⟩=A2 (.bool false):=c2
  replace rf:∀ i,W2.drew.frozen? ⟨w.heap.size,i,A4⟩=false:=rf
  replace hb2:=hb2.drew
  generalize W2.drew=W3 at *
  go_wp2
  refine DF (v:=.agg #[.int .u8 t.k.toNat,.string ⟨t.t.toArray⟩,.bool t.g]) (by simp[results,Tryz.results252,go_sem,c0,c1,c2]) rfl ⟨rfl,Tx.put3 hb2 (An _) _ _ _⟩
namespace Qr
theorem drop_at {s:ByteArray}{k:Nat} (h:k<s.size):s.data.toList.drop k=s[k]'h::s.data.toList.drop (k+1):=by
 rw[List.drop_eq_getElem_cons (by rw[← Ak];exact h)]
 rfl
theorem run_cons (c:UInt8) (r:By):run (c::r)=if sgn c=true then [] else c::run r:=by
 unfold run
 rw[List.takeWhile_cons]
 cases sgn c <;> rfl
theorem sgn_index (c:UInt8):(DJ [32,40,41,58,42,34] c<0)↔sgn c=false:=by
 unfold sgn
 have:∀ n:Nat,n<256→((DJ [32,40,41,58,42,34] (DG n)<0)↔(DG n == 32||DG n == 40||DG n == 41||DG n == 58||DG n == 42||DG n == 34)=false):=by decide +kernel
 have h:=this c.toNat c.toNat_lt
 rw[UInt8.ofNat_toNat]at h
 exact h
theorem tokF_blank (g:Bool) (r:By):tokF g (32::r)=tokF false r:=by rw[tokF_cons,if_pos rfl]
theorem tokF_sign {c:UInt8} (g:Bool) (r:By) (h:c=40∨c=41∨c=58∨c=42):tokF g (c::r)=⟨c,[],g⟩::tokF true r:=by
 rw[tokF_cons,if_neg (by rcases h with rfl | rfl | rfl | rfl <;> decide),if_pos h]
theorem tokF_quote {x y:By} (g:Bool) (r:By) (h:Sp.cut 34 r=A2 (x,y)):tokF g (34::r)=⟨113,x,g⟩::tokF true y:=by
 rw[tokF_cons,if_neg (by decide),if_neg (by decide),if_pos rfl,h]
theorem tokF_open (g:Bool) (r:By) (h:Sp.cut 34 r=A4):tokF g (34::r)=⟨34,[],g⟩::tokF true r:=by
 rw[tokF_cons,if_neg (by decide),if_neg (by decide),if_pos rfl,h]
theorem tokF_run {c:UInt8} (g:Bool) (r:By) (h:sgn c=false):tokF g (c::r)=⟨114,c::run r,g⟩::tokF true (r.drop (run r).length):=by
 have hh:c≠32∧c≠40∧c≠41∧c≠58∧c≠42∧c≠34:=by
  unfold sgn at h
  simp only[Bool.or_eq_false_iff,beq_eq_false_iff_ne]at h
  exact⟨h.1.1.1.1.1,h.1.1.1.1.2,h.1.1.1.2,h.1.1.2,h.1.2,h.2⟩
 rw[tokF_cons,if_neg hh.1,if_neg (by rintro (h | h | h | h) <;> simp_all),if_neg hh.2.2.2.2.2]
theorem run_at {s:ByteArray}{k n:Nat} (h1:1≤n) (hle:k+n≤s.size) (hin:∀ j,1≤j→j<n→∀ h:k+j<s.size,sgn (s[k+j]'h)=false) (hout:∀ h:k+n<s.size,sgn (s[k+n]'h)=true) :
  run (s.data.toList.drop (k+1))=(s.data.toList.drop (k+1)).take (n - 1):=by
 have:∀ (d j:Nat),j+d=n→1≤j→run (s.data.toList.drop (k+j))=(s.data.toList.drop (k+j)).take d:=by
  intro d
  induction d with
  | zero =>
   intro j hj hj1
   by_cases hlt:k+j<s.size
   ·rw[drop_at hlt,run_cons,if_pos (by have:=hout (by omega);simpa [show k+j=k+n by omega] using this)]
    rfl
   ·rw[List.drop_eq_nil_of_le (by rw[← Ak];omega)]
    rfl
  | succ d ih =>
   intro j hj hj1
   have hlt:k+j<s.size:=by omega
   rw[drop_at hlt,run_cons,if_neg (by rw[hin j hj1 (by omega) hlt];simp),List.take_succ_cons,show k+j+1=k+(j+1) by omega,ih (j+1) (by omega) (by omega)]
 have:=this (n - 1) 1 (by omega) (An _)
 exact this
end Qr
section
theorem Qr.run_tok0 (k:Int) (t:ByteArray) (b:Bool) (w:A9):(Instr.field 205 (.agg #[.int .u8 k,.string t,.bool b]) 0).run A3 w=.ok (.int .u8 k) w:=by kernel_rfl
theorem Qr.run_tok1 (k:Int) (t:ByteArray) (b:Bool) (w:A9):(Instr.field 205 (.agg #[.int .u8 k,.string t,.bool b]) 1).run A3 w=.ok (.string t) w:=by kernel_rfl
theorem Qr.run_tok2 (k:Int) (t:ByteArray) (b:Bool) (w:A9):(Instr.field 205 (.agg #[.int .u8 k,.string t,.bool b]) 2).run A3 w=.ok (.bool b) w:=by kernel_rfl
attribute [local go_sem] Qr.run_tok0 Qr.run_tok1 Qr.run_tok2
theorem Qr.kn {c:UInt8}{n:Nat} (hn:n<256):(¬ c=DG n)→¬ ((c.toNat:Int)=(n:Int)):=by
 intro h e
 exact h (by rw[← UInt8.toNat_inj,UInt8.toNat_ofNat'];omega)
theorem Qr.bs (l m:List UInt8):((⟨l.toArray⟩:ByteArray).toList == (⟨m.toArray⟩:ByteArray).toList)=(l == m):=by rw[AA,AA]
theorem is_c (g:Nat) (l r:List D7) (s:List UInt8) (w:A9) (hP:Qr.PS g l r w) :
  Ac A3 196 #[.pointer (A2 ⟨g,0,A4⟩),.string ⟨s.toArray⟩] w fun e w'=>e=.returned (.bool (Qr.isOp s r))∧A6 w.heap.size w w':=by
 obtain⟨t,ht⟩:∃ t,Hi r=t:=⟨_,rfl⟩
 have HS:Hid (Qr.isOp s r=((t.k == 114)&&(t.t == s))):=J (by unfold Qr.isOp;rw[ht])
 have HT:=J ht;clear ht
 by_cases hk:t.k=114
 ·have hkn:((t.k.toNat:Nat):Int)=114:=by rw[hk];rfl
  have HK:=J hkn;clear hkn
  go_enter Tryz.func196,Tryz.ntmps196
  go_wp2_with (first
   |(go_at_call 252;refine (look_c g 0 0 l r w rfl (by omega) hP).mono ?_;rintro e w1 ⟨rfl,hb1⟩;rw[AM,HT.out,HK.out])
   |(go_at_call 252;refine (look_c g 0 0 l r _ rfl (by omega) (hP.below hb1)).mono ?_;rintro e w2 ⟨rfl,hb2⟩;rw[AM,HT.out,HK.out]))
  all_goals
   go_ret
   exact⟨Ay (by rw[HS.out,hk];simp[*]),hb1.trans (hb2.mono hb1.size)⟩
 ·have hkn:((t.k.toNat:Int) == 114)=false:=beq_eq_false_iff_ne.2 (Qr.kn (n:=114) (by decide) hk)
  have hk0:(t.k == 114)=false:=beq_eq_false_iff_ne.2 hk
  have HK0:=J hk0;clear hk0 hk
  go_enter Tryz.func196,Tryz.ntmps196
  go_wp2_with (go_at_call 252;refine (look_c g 0 0 l r w rfl (by omega) hP).mono ?_;rintro e w1 ⟨rfl,hb1⟩;rw[AM,HT.out])
  go_ret
  exact⟨Ay (by rw[HS.out,HK0.out];rfl),hb1⟩
theorem Qr.begins_k {r:List D7}{t:D7} (h:Hi r=t):I5 r=(t.k == 40||t.k == 113||(t.k == 114&&!(t.t == Qr.orB)&&!(t.t == Qr.andB)&&!(t.t == Qr.notB))):=by
 unfold I5 Qr.word0 Qr.anyOp
 rw[h]
 cases t.k == 40 <;> cases t.k == 113 <;> cases t.k == 114 <;> cases t.t == Qr.orB <;> cases t.t == Qr.andB <;> cases t.t == Qr.notB <;> rfl
theorem begins_c (g:Nat) (l r:List D7) (w:A9) (hP:Qr.PS g l r w) :
  Ac A3 251 #[.pointer (A2 ⟨g,0,A4⟩)] w fun e w'=>e=.returned (.bool (I5 r))∧A6 w.heap.size w w':=by
 obtain⟨t,ht⟩:∃ t,Hi r=t:=⟨_,rfl⟩
 have HS:=J (Qr.begins_k ht)
 have HT:=J ht;clear ht
 by_cases k1:t.k=40
 ·have hkn:((t.k.toNat:Nat):Int)=40:=by rw[k1];rfl
  have HK:=J hkn;clear hkn
  rw[k1]at HS
  go_enter Tryz.func251,Tryz.ntmps251
  go_wp2_with (go_at_call 252;refine (look_c g 0 0 l r w rfl (by omega) hP).mono ?_;rintro e w1 ⟨rfl,hb1⟩;rw[AM,HT.out,HK.out])
  go_ret
  exact⟨Ay (by rw[HS.out];rfl),hb1.trans ((Aa _ _).mono hb1.size)⟩
 ·have n1:((t.k.toNat:Int) == 40)=false:=beq_eq_false_iff_ne.2 (Qr.kn (n:=40) (by decide) k1)
  have k1':(t.k == 40)=false:=beq_eq_false_iff_ne.2 k1
  rw[k1']at HS
  clear k1'
  by_cases k2:t.k=113
  ·have hkn:((t.k.toNat:Nat):Int)=113:=by rw[k2];rfl
   have HK:=J hkn;clear hkn n1 k1
   rw[k2]at HS
   go_enter Tryz.func251,Tryz.ntmps251
   go_wp2_with (go_at_call 252;refine (look_c g 0 0 l r w rfl (by omega) hP).mono ?_;rintro e w1 ⟨rfl,hb1⟩;rw[AM,HT.out,HK.out])
   go_ret
   exact⟨Ay (by rw[HS.out];rfl),hb1.trans ((Aa _ _).mono hb1.size)⟩
  ·have n2:((t.k.toNat:Int) == 113)=false:=beq_eq_false_iff_ne.2 (Qr.kn (n:=113) (by decide) k2)
   have k2':(t.k == 113)=false:=beq_eq_false_iff_ne.2 k2
   rw[k2']at HS
   clear k2'
   by_cases k3:t.k=114
   ·have hkn:((t.k.toNat:Nat):Int)=114:=by rw[k3];rfl
    have HK:=J hkn;clear hkn n1 k1 n2 k2
    rw[k3]at HS
    go_enter Tryz.func251,Tryz.ntmps251
    go_wp2_with (go_at_call 252;refine (look_c g 0 0 l r w rfl (by omega) hP).mono ?_;rintro e w1 ⟨rfl,hb1⟩;rw[AM,HT.out,HK.out])
    all_goals
     go_ret
     exact⟨Ay (by rw[HS.out];simp[*,Qr.orB,Qr.andB,Qr.notB]),hb1.trans ((Aa _ _).mono hb1.size)⟩
   ·have n3:((t.k.toNat:Int) == 114)=false:=beq_eq_false_iff_ne.2 (Qr.kn (n:=114) (by decide) k3)
    have k3':(t.k == 114)=false:=beq_eq_false_iff_ne.2 k3
    rw[k3']at HS
    clear k3'
    go_enter Tryz.func251,Tryz.ntmps251
    go_wp2_with (go_at_call 252;refine (look_c g 0 0 l r w rfl (by omega) hP).mono ?_;rintro e w1 ⟨rfl,hb1⟩;rw[AM,HT.out])
    go_ret
    exact⟨Ay (by rw[HS.out];rfl),hb1.trans ((Aa _ _).mono hb1.size)⟩
end
namespace Qr
structure QT where
 op:Int
 fl:Int
 sa:Option Ao
 sn:Nat
 sc:Nat
 a:Int
 b:Int
 ka:Option Ao
 kn:Nat
 kc:Nat
abbrev encQ (t:QT):List Ah:=[.int .i64 t.op,.int .i64 t.fl,.slice t.sa t.sn t.sc,.int .i64 t.a,.int .i64 t.b,.slice t.ka t.kn t.kc]
theorem encQ_len (t:QT):(encQ t).length=6:=rfl
theorem encQ_one (t:QT):∀ u∈encQ t,u.oneCell'=true:=by simp[encQ,Value.oneCell']
theorem encQ_ones (T:List QT):∀ u∈T.flatMap encQ,u.oneCell'=true:=Br.flat_one encQ_one T
theorem QC.qt {B:Nat}{w:A9}{q:Qy}{cs:List Ah} (h:QC B w q cs):∃ t,cs=encQ t:=by
 cases h
 exact⟨⟨_,_,_,_,_,_,_,_,_,_⟩,rfl⟩
def QL (B:Nat) (w:A9) (ks:List Qy) (T:List QT):Prop:=T.length=ks.length∧∀ (j:Nat) k t,ks[j]?=A2 k→T[j]?=A2 t→QC B w k (encQ t)
theorem QL.nil (B:Nat) (w:A9):QL B w [] []:=⟨rfl,fun j k t h=>by simp at h⟩
theorem QL.one {B:Nat}{w:A9}{k:Qy}{t:QT} (h:QC B w k (encQ t)):QL B w [k] [t]:=by
 refine⟨rfl,fun j k2 t2 h1 h2=>?_⟩
 match j,h1,h2 with
 | 0,h1,h2=>injection h1 with h1;injection h2 with h2;rw[← h1,← h2];exact h
 | j+1,h1,_=>simp at h1
theorem QL.app {B:Nat}{w:A9}{ks ks2:List Qy}{T T2:List QT} (h:QL B w ks T) (h2:QL B w ks2 T2):QL B w (ks++ks2) (T++T2):=by
 refine⟨by rw[Af,Af,h.1,h2.1],fun j k t hk ht=>?_⟩
 by_cases hj:j<ks.length
 ·rw[Eg hj]at hk
  rw[Eg (by rw[h.1];exact hj)]at ht
  exact h.2 j k t hk ht
 ·rw[CS (by omega)]at hk
  rw[CS (by rw[h.1];omega),h.1]at ht
  exact h2.2 _ k t hk ht
theorem QL.later {B:Nat}{w w':A9}{ks:List Qy}{T:List QT} (h:QL B w ks T) (hb:A6 w.heap.size w w'):QL B w' ks T:=⟨h.1,fun j k t h1 h2=>(h.2 j k t h1 h2).later hb⟩
theorem fa_map {w:A9}{a:Option Ao}{c:Nat}{T:List QT}:Br.FA encQ 6 w a c T↔Br.FA id 6 w a c (T.map encQ):=by
 constructor
 ·intro h
  obtain⟨b,o,h1,h2⟩:=h.at_
  refine⟨by rw[At];exact h.cap,h.max,b,o,fun hn=>h1 (by intro h0;rw[h0]at hn;exact hn rfl),fun j i x u hx hu=>?_⟩
  rw[AE,BZ]at hx
  obtain⟨t,ht,rfl⟩:=hx
  exact h2 j i t u ht hu
 ·intro h
  obtain⟨b,o,h1,h2⟩:=h.at_
  refine⟨by have:=h.cap;rw[At]at this;exact this,h.max,b,o,fun hn=>h1 (by intro h0;exact hn (List.map_eq_nil_iff.1 h0)),fun j i x u hx hu=>?_⟩
  exact h2 j i (encQ x) u (by rw[AE,hx];rfl) hu
theorem KA.ts {B:Nat}{w:A9}{a:Option Ao}{c:Nat}{ks:List Qy} (h:KA B w a c ks):∃ T,QL B w ks T∧Br.FA encQ 6 w a c T∧(ks≠[]→∀ ad,a=A2 ad→B≤ad.block):=by
 obtain⟨css,h1,h2,h3,h4⟩:=h.ex
 obtain⟨T,e,hT⟩:=Br.choose_list css (fun j (x:List Ah × QT)=>x.1=encQ x.2) (fun j cs hcs=>by
  have hj:j<ks.length:=by rw[← h1];exact (Ai.1 hcs).1
  exact (h2 j _ cs (A7 hj) hcs).qt)
 have he:(T.map (·.2)).map encQ=css:=by
  rw[← e,Dp]
  apply List.map_congr_left
  intro x hx
  obtain⟨j,hj⟩:=List.getElem?_of_mem hx
  exact (hT j x hj).symm
 refine⟨T.map (·.2),⟨by rw[← h1,← he];simp only[At],fun j k t hk ht=>?_⟩,fa_map.2 (by rw[he];exact h3),fun hn ad had=>h4 (by intro h0;rw[h0]at h1;exact hn (Aw h1.symm)) ad had⟩
 exact h2 j k _ hk (by rw[← he,AE,ht];rfl)
theorem KA.of_ts {B:Nat}{w:A9}{a:Option Ao}{c:Nat}{ks:List Qy}{T:List QT} (h:QL B w ks T) (hf:Br.FA encQ 6 w a c T) (hb:ks≠[]→∀ ad,a=A2 ad→B≤ad.block):KA B w a c ks:=by
 refine⟨T.map encQ,by rw[At];exact h.1,fun j k cs hk hcs=>?_,fa_map.1 hf,fun hn=>hb (by intro h0;subst h0;exact hn (by have:=h.1;rw[Aw this];rfl))⟩
 rw[AE,BZ]at hcs
 obtain⟨t,ht,rfl⟩:=hcs
 exact h.2 j k t hk ht
theorem QC.ka {B:Nat}{w:A9}{q:Qy}{o f a b:Int}{sa ka:Option Ao}{sn sc kn kc:Nat} (h:QC B w q [.int .i64 o,.int .i64 f,.slice sa sn sc,.int .i64 a,.int .i64 b,.slice ka kn kc]):KA B w ka kc q.ks:=by
 obtain⟨sa2,sc2,ka2,kc2,e,_,_,hk⟩:=h.kids
 simp only[List.cons.injEq,Value.slice.injEq,and_true]at e
 obtain⟨_,_,_,_,_,rfl,_,rfl⟩:=e
 exact hk
def Res (g:Nat) (l:List Tok) (x:PR) (w:A9) (e:Ending) (w':A9):Prop :=
 match x with
 | none=>e=.panicked [{ v:=wrongP,recovered:=false }]∧Fr g w w'
 | some (q,r')=>∃ t,e=.returned (.agg (encQ t).toArray)∧QC w.heap.size w' q (encQ t)∧PS g l r' w'∧Fr g w w'
def flat (op:Int) (k:Qy):List Qy:=if k.op=op then k.ks else [k]
theorem joined_one (op:Int) (x:Qy):joined op [x]=x:=rfl
theorem joined_many (op:Int) (l:List Qy) (h:l.length≠1):joined op l=.mk op 0 [] 0 0 (l.flatMap (flat op)):=by
 unfold joined
 split
 ·simp at h
 ·rfl
theorem flat_take {op:Int}{l:List Qy}{k:Nat}{x:Qy} (h:l[k]?=A2 x):(l.take (k+1)).flatMap (flat op)=(l.take k).flatMap (flat op)++flat op x:=by
 rw[take_snoc h,BB];simp
theorem flat_len (op:Int):∀ l:List Qy,(l.flatMap (flat op)).length≤nodesL l
 | []=>by simp[nodesL]
 | .mk o f ws a b ks::r=>by
  have h1:=flat_len op r
  have h2:=ks_nodes ks
  have h3:(flat op (.mk o f ws a b ks)).length≤1+nodesL ks:=by
   unfold flat
   split
   ·exact AK h2 (by omega)
   ·simp
  simp only[List.flatMap_cons,Af,nodesL,nodes]
  omega
theorem nodesL_take (l:List Qy) (k:Nat):nodesL (l.take k)≤nodesL l:=by
 have:=nodesL_app (l.take k) (l.drop k)
 rw[List.take_append_drop]at this
 omega
end Qr
theorem Tx.put6 {B g:Nat}{w wr:A9} (h:A6 B w wr) (hg:B≤g) (v0 v1 v2 v3 v4 v5:Ah):A6 B w ((((((wr.setCell ⟨g,0,A4⟩ v0).setCell ⟨g,1,A4⟩ v1).setCell ⟨g,2,A4⟩ v2).setCell ⟨g,3,A4⟩ v3).setCell ⟨g,4,A4⟩ v4).setCell ⟨g,5,A4⟩ v5) :=
 (((((h.setCell hg _).setCell hg _).setCell hg _).setCell hg _).setCell hg _).setCell hg _
theorem Tx.blk_set {w:A9}{g i:Nat}{cs:Array Ah}{t:TypeId} (h:w.heap[g]?=A2 (.cells cs t (0,0))) (u:Ah):(w.setCell ⟨g,i,A4⟩ u).heap[g]?=A2 (.cells (cs.setIfInBounds i u) t (0,0)):=by
 have hg:=(AN.1 h).1
 simp only[CO,EE]
 rw[h]
 simp
theorem Tx.blk_far {w:A9}{g:Nat}{o:Obj}{a:Ao} (h:w.heap[g]?=A2 o) (hg:g≠a.block) (u:Ah):(w.setCell a u).heap[g]?=A2 o:=(Below.heap_setCell _ _ _ _ hg).trans h
theorem joined_1 (B:Nat) (op:Int) (x:Qr.Qy) (a:Option Ao) (c:Nat) (w:A9) (hK:Qr.KA B w a c [x]) :
  Ac A3 197 #[.int .i64 op,.slice a 1 c] w fun e w'=>∃ t,e=.returned (.agg (Qr.encQ t).toArray)∧Qr.QC B w' x (Qr.encQ t)∧A6 w.heap.size w w':=by
 obtain⟨W,hW⟩:∃ W,w.alloc (.cells #[.int .i64 0,.int .i64 0,.slice A4 0 0,.int .i64 0,.int .i64 0,.slice A4 0 0] 29)=W:=⟨_,rfl⟩
 have hB:A6 w.heap.size w W:=by rw[← hW];exact Aa _ _
 obtain⟨rc,rf,rl⟩:=Aq (show W.heap[w.heap.size]?=A2 (.cells #[.int .i64 0,.int .i64 0,.slice A4 0 0,.int .i64 0,.int .i64 0,.slice A4 0 0] 29 (0,0)) by rw[← hW];exact Ar _ _)
 have c0:W.cell? ⟨w.heap.size,0,A4⟩=A2 (.int .i64 0):=rc 0
 have c1:W.cell? ⟨w.heap.size,1,A4⟩=A2 (.int .i64 0):=rc 1
 have c2:W.cell? ⟨w.heap.size,2,A4⟩=A2 (.slice A4 0 0):=rc 2
 have c3:W.cell? ⟨w.heap.size,3,A4⟩=A2 (.int .i64 0):=rc 3
 have c4:W.cell? ⟨w.heap.size,4,A4⟩=A2 (.int .i64 0):=rc 4
 have c5:W.cell? ⟨w.heap.size,5,A4⟩=A2 (.slice A4 0 0):=rc 5
 clear rc
 obtain⟨b,o,sa,sc,ka,kc,rfl,hbl,d0,d1,d2,d3,d4,d5,hq⟩:=hK.get (k:=0) rfl
 rw[Nat.zero_mul,Bs]at d0 d1 d2 d3 d4 d5
 replace d0:=A0 hB d0
 replace d1:=A0 hB d1
 replace d2:=A0 hB d2
 replace d3:=A0 hB d3
 replace d4:=A0 hB d4
 replace d5:=A0 hB d5
 have HQ:=J hq;clear hq hK hbl
 have hP:=Tx.put6 hB (An _) (.int .i64 x.op) (.int .i64 x.fld) (.slice sa x.ws.length sc) (.int .i64 x.a) (.int .i64 x.b) (.slice ka x.ks.length kc)
 have HP:=J hP;clear hP
 go_enter Tryz.func197,Tryz.ntmps197
 go_wp2
 refine DF (v:=.agg #[.int .i64 x.op,.int .i64 x.fld,.slice sa x.ws.length sc,.int .i64 x.a,.int .i64 x.b,.slice ka x.ks.length kc]) (by simp[results,Tryz.results197,go_sem,c0,c1,c2,c3,c4,c5]) rfl ⟨⟨x.op,x.fld,sa,x.ws.length,sc,x.a,x.b,ka,x.ks.length,kc⟩,rfl,HQ.out.later HP.out,HP.out⟩
theorem joined_m (B:Nat) (op:Int) (l:List Qr.Qy) (a:Option Ao) (c:Nat) (w:A9) (hK:Qr.KA B w a c l) (h1:l.length≠1) (hn:Qr.nodesL l≤1000000) (hBw:B≤w.heap.size) :
  Ac A3 197 #[.int .i64 op,.slice a l.length c] w fun e w'=>∃ t,e=.returned (.agg (Qr.encQ t).toArray)∧Qr.QC B w' (Qr.joined op l) (Qr.encQ t)∧A6 w.heap.size w w':=by
 obtain⟨i0,hi0,hz0,hz1,hz2⟩:=info_parts info_qy
 have HI:=J hi0;clear hi0
 have hll:=Qr.ks_nodes l
 have HJ:=J (Qr.joined_many op l h1)
 have hl1:¬ ((l.length:Int)=1):=by omega
 have hl2:((l.length:Int) == 1)=false:=beq_eq_false_iff_ne.2 hl1
 clear h1
 have hmx:maxLen=9223372036854775807:=rfl
 go_enter Tryz.func197,Tryz.ntmps197
 go_wp2
 go_loopw [18] (fun i wr=>∃ (k:Nat) (T:List Qr.QT) (v:Ah),k≤l.length∧i=.int .i64 k∧Qr.QL B w ((l.take k).flatMap (Qr.flat op)) T∧wr.ownsRow (w.heap.size+2) 29 6 v T.length (T.flatMap Qr.encQ)∧wr.heap[w.heap.size+1]?=A2 (.cells #[.int .i64 op,.int .i64 0,.slice A4 0 0,.int .i64 0,.int .i64 0,v] 29 (0,0))∧wr.heap[w.heap.size]?=A2 (.cells #[.int .i64 0,.int .i64 0,.slice A4 0 0,.int .i64 0,.int .i64 0,.slice A4 0 0] 29 (0,0))∧A6 w.heap.size w wr) (fun i _=>l.length - (intOf i).toNat)
 case atStart=>exact⟨0,[],.slice A4 0 0,Nat.zero_le _,rfl,by rw[List.take_zero];exact Qr.QL.nil _ _,World.ownsRow_nil _ _ _ _,by have:=Ar (w.alloc (.cells #[.int .i64 0,.int .i64 0,.slice A4 0 0,.int .i64 0,.int .i64 0,.slice A4 0 0] 29)) (.cells #[.int .i64 op,.int .i64 0,.slice A4 0 0,.int .i64 0,.int .i64 0,.slice A4 0 0] 29);simpa using this,Aj (Ar w _) (Aa _ _),(Aa _ _).trans ((Aa _ _).mono (by simp))⟩
 case round =>
  obtain⟨k,T,v,hk,rfl,hT,hown,hQ,hR,hb⟩:=hrel
  have hTl:T.length≤1000000:=by
   rw[hT.1]
   have h1:=Qr.flat_len op (l.take k)
   have h2:=Qr.nodesL_take l k
   omega
  have hsz:=hb.size
  have hQl:=(AN.1 hQ).1
  have hfar:∀ g,g<w.heap.size+2→A2 g≠v.ownBlock:=fun g hg e=>by have:=(hown.lt g e.symm).1;omega
  have HF:=J hfar;clear hfar
  obtain⟨va,vc,rfl,_,_,_⟩:=Br.own_any Qr.encQ_len hown rfl
  by_cases hlt:k<l.length
  ·obtain⟨x,hx⟩:∃ x,l[k]?=A2 x:=⟨_,A7 hlt⟩
   obtain⟨b,o,sa2,sc2,ka2,kc2,rfl,hbl,d0,d1,d2,d3,d4,d5,hq⟩:=hK.get hx
   have hxn:=Qr.nodes_kid (List.mem_of_getElem? hx)
   have hft:=Qr.flat_take (op:=op) hx
   obtain⟨T2,hT2,hFA,hlow⟩:=hq.ka.ts
   have hT2l:=hT2.1
   have hkn:x.ks.length≤1000000:=by
    have h1:=Qr.ks_nodes x.ks
    cases x
    simp only[Qr.nodes,Qr.Qy.ks]at *
    omega
   replace d0:=A0 hb d0
   replace d1:=A0 hb d1
   replace d2:=A0 hb d2
   replace d3:=A0 hb d3
   replace d4:=A0 hb d4
   replace d5:=A0 hb d5
   have HQ:=J hq;clear hq
   have HFT:=J hft;clear hft hx hlow
   have HL2:=J hT2l;clear hT2l
   have HT2:=J hT2;clear hT2
   have HT:=J hT;clear hT
   by_cases hxo:x.op=op
   ·have HO:=J hxo
    rw[hxo]at d0
    clear hxo
    have HFL:Hid (Qr.flat op x=x.ks):=J (by unfold Qr.flat;rw[if_pos HO.out])
    have kq:=Aj hQ (Aa wr (.cells #[.int .i64 op,.int .i64 x.fld,.slice sa2 x.ws.length sc2,.int .i64 x.a,.int .i64 x.b,.slice ka2 x.ks.length kc2] 29))
    have kr:=Aj hR (Aa wr (.cells #[.int .i64 op,.int .i64 x.fld,.slice sa2 x.ws.length sc2,.int .i64 x.a,.int .i64 x.b,.slice ka2 x.ks.length kc2] 29))
    have q5:=(Aq kq).1 5
    go_wp2_with (at_builtin;go_must (refine wpList_append_sl rfl _ _ 27 rfl (w.heap.size+2) 29 i0 _ 6 80 Ft HI.out hz0 hz1 hz2 rfl (by decide) _ T.length _ rfl (hown.alloc _) ka2 x.ks.length kc2 (T2.flatMap Qr.encQ) rfl (by rw[Br.flat_len Qr.encQ 6 Qr.encQ_len,HL2.out]) (fun h9=>by rw[← HL2.out];exact hFA.none h9) ((hFA.below (hb.trans ((Aa _ _).mono hb.size))).cells Qr.encQ_len (by omega)) (Qr.encQ_ones T2) (by unfold maxLen;omega) (by omega) (by simp;omega) ?_);intro v' w2 hown2 hg2 hnil2;have hown3:w2.ownsRow (w.heap.size+2) 29 6 v' (T++T2).length ((T++T2).flatMap Qr.encQ):=(by rw[Af,BB,HL2.out];exact hown2);clear hown2;obtain⟨va3,vc3,rfl,_,_,_⟩:=Br.own_any Qr.encQ_len hown3 rfl;rw[Af]at hown3;have kq2:=(hg2.block _ (AN.1 kq).1 (HF.out _ (by omega))).trans kq;have kr2:=(hg2.block _ (AN.1 kr).1 (HF.out _ (by omega))).trans kr;obtain⟨qc2,qf2,ql2⟩:=Aq kq2;have q52:=qc2 5)
    go_roundw
    case rel=>exact⟨k+1,T++T2,_,hlt,by go_num,by rw[HFT.out,HFL.out];exact HT.out.app HT2.out,by rw[Af];exact ownsRow_setCell_below hown3 (show w.heap.size+1<w.heap.size+2 by omega) _,by have:=Tx.blk_set (i:=5) kq2 (.slice va3 (T.length+T2.length) vc3);simpa using this,Tx.blk_far kr2 (show w.heap.size≠w.heap.size+1 by omega) _,((hb.trans ((Aa _ _).mono hb.size)).grown hg2 (by simp;omega) (fun j hj=>by have:=(hown.lt j hj).1;omega)).setCell (show w.heap.size≤w.heap.size+1 by omega) _⟩
    case measure=>simp[intOf];omega
   ·have HFL:Hid (Qr.flat op x=[x]):=J (by unfold Qr.flat;rw[if_neg hxo])
    have kq:=Aj hQ (Aa wr (.cells #[.int .i64 x.op,.int .i64 x.fld,.slice sa2 x.ws.length sc2,.int .i64 x.a,.int .i64 x.b,.slice ka2 x.ks.length kc2] 29))
    have kr:=Aj hR (Aa wr (.cells #[.int .i64 x.op,.int .i64 x.fld,.slice sa2 x.ws.length sc2,.int .i64 x.a,.int .i64 x.b,.slice ka2 x.ks.length kc2] 29))
    have q5:=(Aq kq).1 5
    have kq1:=Aj kq (Aa _ (.cells #[.int .i64 x.op,.int .i64 x.fld,.slice sa2 x.ws.length sc2,.int .i64 x.a,.int .i64 x.b,.slice ka2 x.ks.length kc2] 29))
    have kr1:=Aj kr (Aa _ (.cells #[.int .i64 x.op,.int .i64 x.fld,.slice sa2 x.ws.length sc2,.int .i64 x.a,.int .i64 x.b,.slice ka2 x.ks.length kc2] 29))
    go_wp2_with (at_builtin;go_must (refine wpList_append_sl rfl _ _ 27 rfl (w.heap.size+2) 29 i0 _ 6 80 Ft HI.out hz0 hz1 hz2 rfl (by decide) _ T.length _ rfl ((hown.alloc _).alloc _) (A2 ⟨_,0,A4⟩) 1 1 [.int .i64 x.op,.int .i64 x.fld,.slice sa2 x.ws.length sc2,.int .i64 x.a,.int .i64 x.b,.slice ka2 x.ks.length kc2] rfl rfl (fun h9=>by cases h9) (fun ad had=>by cases had;exact Br.cells_new_at _ _ (by first | rfl | simp) _ _) (by simp[Value.oneCell']) (by unfold maxLen;omega) (by omega) (by simp;omega) ?_);intro v' w2 hown2 hg2 hnil2;have hown3:w2.ownsRow (w.heap.size+2) 29 6 v' (T++[(⟨x.op,x.fld,sa2,x.ws.length,sc2,x.a,x.b,ka2,x.ks.length,kc2⟩:Qr.QT)]).length ((T++[(⟨x.op,x.fld,sa2,x.ws.length,sc2,x.a,x.b,ka2,x.ks.length,kc2⟩:Qr.QT)]).flatMap Qr.encQ):=(by rw[Af,BB];exact hown2);clear hown2;obtain⟨va3,vc3,rfl,_,_,_⟩:=Br.own_any Qr.encQ_len hown3 rfl;rw[Af]at hown3;have kq2:=(hg2.block _ (AN.1 kq1).1 (HF.out _ (by omega))).trans kq1;have kr2:=(hg2.block _ (AN.1 kr1).1 (HF.out _ (by omega))).trans kr1;obtain⟨qc2,qf2,ql2⟩:=Aq kq2;have q52:=qc2 5)
    go_roundw
    case rel=>exact⟨k+1,T++[⟨x.op,x.fld,sa2,x.ws.length,sc2,x.a,x.b,ka2,x.ks.length,kc2⟩],_,hlt,by go_num,by rw[HFT.out,HFL.out];exact HT.out.app (Qr.QL.one HQ.out),by rw[Af];exact ownsRow_setCell_below hown3 (show w.heap.size+1<w.heap.size+2 by omega) _,by have:=Tx.blk_set (i:=5) kq2 (.slice va3 (T.length+1) vc3);simpa using this,Tx.blk_far kr2 (show w.heap.size≠w.heap.size+1 by omega) _,(((hb.trans ((Aa _ _).mono hb.size)).trans ((Aa _ _).mono (by simp;omega))).grown hg2 (by simp;omega) (fun j hj=>by have:=(hown.lt j hj).1;omega)).setCell (show w.heap.size≤w.heap.size+1 by omega) _⟩
    case measure=>simp[intOf];omega
  ·have hkk:k=l.length:=by omega
   subst hkk
   rw[List.take_length]at hT
   obtain⟨qc,qf,ql⟩:=Aq hQ
   obtain⟨rc,rf,rl⟩:=Aq hR
   have q0:=qc 0
   have q1:=qc 1
   have q2:=qc 2
   have q3:=qc 3
   have q4:=qc 4
   have q5:=qc 5
   have r0:=rc 0
   have r1:=rc 1
   have r2:=rc 2
   have r3:=rc 3
   have r4:=rc 4
   have r5:=rc 5
   clear qc qf ql rc
   have hTL:T.length=(l.flatMap (Qr.flat op)).length:=hT.1
   obtain⟨va9,vc9,e3,hFA3,hlow3⟩:=Br.FA.of_own Qr.encQ_len hown rfl
   injection e3 with e3a _ e3b
   subst e3a
   subst e3b
   have hP:=fun v0 v1 v2 v3 v4 v5=>Tx.put6 hb (An _) v0 v1 v2 v3 v4 v5
   have HP:=J hP;clear hP
   have HTL:=J hTL;clear hTL
   have hkeep:∀ (w':A9),A6 w.heap.size w w'→(∀ g,w.heap.size<g→g<wr.heap.size→w'.heap[g]?=wr.heap[g]?)→wr.heap.size≤w'.heap.size→Qr.QC B w' (Qr.joined op l) [.int .i64 op,.int .i64 0,.slice A4 0 0,.int .i64 0,.int .i64 0,.slice va (l.flatMap (Qr.flat op)).length vc]:=by
    intro w' hb' hsame hle
    rw[HJ.out]
    refine Qr.QC.of_kids (ws:=[]) (.inl ⟨rfl,_,_,rfl⟩) (fun h=>absurd rfl h) (Qr.KA.of_ts (hT.later hb') ?_ (fun hn ad had=>by have:=hlow3 ad had;omega))
    obtain⟨bb,oo,f1,f2⟩:=hFA3.at_
    refine⟨hFA3.cap,hFA3.max,bb,oo,fun hn=>⟨(f1 hn).1,B1 (f1 hn).2 hle⟩,fun j i t u ht hu=>?_⟩
    have hne:T≠[]:=by intro h0;rw[h0]at ht;simp at ht
    have hbb:=hlow3 _ (f1 hne).1
    exact (Dh (w:=wr) (hsame bb (by simp only at hbb;omega) (f1 hne).2)).trans (f2 j i t u ht hu)
   have HK:=J hkeep;clear hkeep
   clear hFA3 hlow3 hown hT
   go_wp2
   refine DF (v:=.agg #[.int .i64 op,.int .i64 0,.slice A4 0 0,.int .i64 0,.int .i64 0,.slice va T.length vc]) (by simp[results,Tryz.results197,go_sem,r0,r1,r2,r3,r4,r5]) rfl ⟨⟨op,0,A4,0,0,0,0,va,T.length,vc⟩,rfl,by rw[show Qr.encQ ⟨op,0,A4,0,0,0,0,va,T.length,vc⟩=[.int .i64 op,.int .i64 0,.slice A4 0 0,.int .i64 0,.int .i64 0,.slice va (l.flatMap (Qr.flat op)).length vc] by rw[← HTL.out]];exact HK.out _ (HP.out _ _ _ _ _ _) (fun g hg1 hg2=>by simp only[CO,EE];repeat rw[if_neg (by omega)]) (by simp[CO]),HP.out _ _ _ _ _ _⟩
section
attribute [local go_sem] Qr.run_tok0 Qr.run_tok1 Qr.run_tok2
namespace Qr
theorem wordsB_bys {xs:List ByteArray}{t:By} (h:xs.map (·.data.toList)=Tx.words t):xs=wordsB t:=by
 unfold wordsB
 rw[← h,Dp]
 conv=>lhs;rw[← List.map_id xs]
 rfl
theorem lk_mem {r:List Tok} (h:(lk r).k≠0):lk r∈r:=by
 cases r with
 | nil=>exact absurd rfl h
 | cons t l=>exact List.mem_cons_self
theorem PS.tok {g:Nat}{l r:List Tok}{w:A9} (h:PS g l r w) (hk:(lk r).k≠0):Tx.valid (lk r).t=true∧(lk r).t.length≤1000 :=
 h.ok _ (h.suf.subset (lk_mem hk))
abbrev zeroQ:Array Ah:=#[.int .i64 0,.int .i64 0,.slice A4 0 0,.int .i64 0,.int .i64 0,.slice A4 0 0]
end Qr
theorem look0 {g:Nat}{l r:List D7}{kk:UInt8}{tt:List UInt8}{tg:Bool}{K:Int}{w:A9} (ht:Hi r=⟨kk,tt,tg⟩) (hK:(kk.toNat:Int)=K) (hP:Qr.PS g l r w) :
  Ac A3 252 #[.pointer (A2 ⟨g,0,A4⟩),.int .i64 0] w fun e w'=>e=.returned (.agg #[.int .u8 K,.string ⟨tt.toArray⟩,.bool tg])∧A6 w.heap.size w w':=by
 have:=look_c g 0 0 l r w rfl (by omega) hP
 rw[AM,ht]at this
 simp only[hK]at this
 exact this
theorem look1 {g:Nat}{l r:List D7}{kk:UInt8}{tt:List UInt8}{tg:Bool}{K:Int}{w:A9} (ht:Qr.lk1 r=⟨kk,tt,tg⟩) (hK:(kk.toNat:Int)=K) (hP:Qr.PS g l r w) :
  Ac A3 252 #[.pointer (A2 ⟨g,0,A4⟩),.int .i64 1] w fun e w'=>e=.returned (.agg #[.int .u8 K,.string ⟨tt.toArray⟩,.bool tg])∧A6 w.heap.size w w':=by
 have:=look_c g 1 1 l r w rfl (by omega) hP
 rw[List.drop_one,show Hi r.tail=⟨kk,tt,tg⟩ from ht]at this
 simp only[hK]at this
 exact this
namespace Qr
structure Kp (M:Nat) (w w':A9):Prop where
 size:w.heap.size≤w'.heap.size
 block:∀ k,M≤k→k<w.heap.size→w'.heap[k]?=w.heap[k]?
theorem Kp.refl (M:Nat) (w:A9):Kp M w w:=⟨An _,fun _ _ _=>rfl⟩
theorem Kp.trans {M:Nat}{a b c:A9} (h:Kp M a b) (k:Kp M b c):Kp M a c:=⟨AK h.size k.size,fun i h1 h2=>(k.block i h1 (B1 h2 h.size)).trans (h.block i h1 h2)⟩
theorem Kp.below {M:Nat}{w w':A9} (h:A6 w.heap.size w w'):Kp M w w':=⟨h.size,fun k _ h2=>h.block k h2⟩
theorem Kp.set {M:Nat}{a w:A9} (h:Kp M a w) {p:Ao} (hp:p.block<M) (u:Ah):Kp M a (w.setCell p u) :=
 h.trans ⟨by simp[CO],fun k hk _=>Below.heap_setCell _ _ _ _ (by omega)⟩
theorem Kp.put6 {M g:Nat}{a w:A9} (h:Kp M a w) (hg:g<M) (v0 v1 v2 v3 v4 v5:Ah):Kp M a ((((((w.setCell ⟨g,0,A4⟩ v0).setCell ⟨g,1,A4⟩ v1).setCell ⟨g,2,A4⟩ v2).setCell ⟨g,3,A4⟩ v3).setCell ⟨g,4,A4⟩ v4).setCell ⟨g,5,A4⟩ v5) :=
 (((((h.set hg _).set hg _).set hg _).set hg _).set hg _).set hg _
theorem Kp.sl {M A c:Nat}{w w':A9}{xs:List ByteArray} (h:SLA w (A2 ⟨A,0,A4⟩) c xs) (hA:M≤A) (hK:Kp M w w'):SL w' (.slice (A2 ⟨A,0,A4⟩) xs.length c) xs:=by
 by_cases hne:xs=[]
 ·exact .inl ⟨hne,_,_,by rw[hne];rfl⟩
 ·obtain⟨b,o,h1,h2⟩:=h.at_
  obtain⟨e,hb⟩:=h1 hne
  injection e with e
  injection e with e1 e2
  subst e1 e2
  exact .inr ⟨A,0,c,rfl,h.cap,h.max,B1 hb hK.size,fun j x hx=>(Dh (w:=w) (hK.block A hA hb)).trans (h2 j x hx)⟩
theorem Kp.sl2 {M:Nat}{w w':A9}{v:Ah}{xs:List ByteArray} (h:SL w v xs) (hl:LowS M v xs) (hK:Kp M w w'):SL w' v xs:=by
 rcases h with h1 | ⟨b,o,c,h1,h2,h3,h4,h5⟩
 ·exact .inl h1
 ·by_cases hne:xs=[]
  ·exact .inl ⟨hne,_,_,by rw[h1,hne];rfl⟩
  ·have hb:=hl hne _ _ _ h1
   exact .inr ⟨b,o,c,h1,h2,h3,B1 h4 hK.size,fun j x hx=>(Dh (w:=w) (hK.block b hb h4)).trans (h5 j x hx)⟩
theorem Kp.fa {M:Nat}{α:Type}{enc:α→List Ah}{size:Nat}{w w':A9}{a:Option Ao}{c:Nat}{xs:List α} (hf:Br.FA enc size w a c xs) (hb:xs≠[]→∀ ad,a=A2 ad→M≤ad.block) (hK:Kp M w w'):Br.FA enc size w' a c xs:=by
 obtain⟨b,o,h1,h2⟩:=hf.at_
 by_cases hne:xs=[]
 ·subst hne
  exact⟨hf.cap,hf.max,b,o,fun h9=>absurd rfl h9,fun j i x u hx=>by simp at hx⟩
 ·have h3:=hb hne _ (h1 hne).1
  exact⟨hf.cap,hf.max,b,o,fun hn=>⟨(h1 hn).1,B1 (h1 hn).2 hK.size⟩,fun j i x u hx hu=>(Dh (w:=w) (hK.block b h3 (h1 hne).2)).trans (h2 j i x u hx hu)⟩
theorem QC.kp {B:Nat}{w w':A9}{q:Qy}{cs:List Ah} (h:QC B w q cs) (hK:Kp B w w'):QC B w' q cs:=by
 induction h with
 | mk hw hwb hl _ hf hfb ih=>exact .mk (Kp.sl2 hw hwb hK) hwb hl (fun j k cs h1 h2=>ih j k cs h1 h2) (Kp.fa hf hfb hK) hfb
theorem Kp.fr {g M:Nat}{w w':A9} (h:Fr g w w') (hM:g<M):Kp M w w':=⟨h.size,fun k h1 h2=>h.block k (by omega) h2⟩
theorem Kp.mono {M M':Nat}{w w':A9} (h:Kp M w w') (hM:M≤M'):Kp M' w w':=⟨h.size,fun k h1 h2=>h.block k (by omega) h2⟩
theorem Res.get {g:Nat}{l:List Tok}{q:Qy}{r':List Tok}{w w':A9}{e:Ending} (h:Res g l (A2 (q,r')) w e w'):∃ o f a b sa sn sc ka kn kc,e=.returned (.agg #[.int .i64 o,.int .i64 f,.slice sa sn sc,.int .i64 a,.int .i64 b,.slice ka kn kc])∧QC w.heap.size w' q [.int .i64 o,.int .i64 f,.slice sa sn sc,.int .i64 a,.int .i64 b,.slice ka kn kc]∧PS g l r' w'∧Fr g w w':=by
 obtain⟨⟨o,f,sa,sn,sc,a,b,ka,kn,kc⟩,h1,h2,h3,h4⟩:=h
 exact⟨o,f,a,b,sa,sn,sc,ka,kn,kc,h1,h2,h3,h4⟩
theorem Res.bad {g:Nat}{l:List Tok}{w w':A9}{e:Ending} (h:Res g l A4 w e w'):e=.panicked [{ v:=wrongP,recovered:=false }]∧Fr g w w':=h
theorem Fr.put6 {g R:Nat}{a w:A9} (h:Fr g a w) (hg:a.heap.size≤R) (v0 v1 v2 v3 v4 v5:Ah):Fr g a ((((((w.setCell ⟨R,0,A4⟩ v0).setCell ⟨R,1,A4⟩ v1).setCell ⟨R,2,A4⟩ v2).setCell ⟨R,3,A4⟩ v3).setCell ⟨R,4,A4⟩ v4).setCell ⟨R,5,A4⟩ v5) :=
 (((((h.setNew hg _).setNew hg _).setNew hg _).setNew hg _).setNew hg _).setNew hg _
theorem far6 {g R:Nat}{w:A9}{o:Obj} (h:w.heap[g]?=A2 o) (hg:g≠R) (v0 v1 v2 v3 v4 v5:Ah):((((((w.setCell ⟨R,0,A4⟩ v0).setCell ⟨R,1,A4⟩ v1).setCell ⟨R,2,A4⟩ v2).setCell ⟨R,3,A4⟩ v3).setCell ⟨R,4,A4⟩ v4).setCell ⟨R,5,A4⟩ v5).heap[g]?=A2 o :=
 Tx.blk_far (Tx.blk_far (Tx.blk_far (Tx.blk_far (Tx.blk_far (Tx.blk_far h hg _) hg _) hg _) hg _) hg _) hg _
theorem PS.of' {g:Nat}{l r r':List Tok}{w w':A9}{ta:Option Ao}{tc:Nat}{v:Ah}{m:Int} (h:PS g l r w) (hk:w.heap[g]?=A2 (.cells #[.slice ta l.length tc,v] 129 (0,0))) (hB:A6 g w w') (hr:r' <:+ r)
  (hk':w'.heap[g]?=A2 (.cells #[.slice ta l.length tc,.int .i64 m] 129 (0,0))) (hm:m=((l.length - r'.length:Nat):Int)):PS g l r' w':=by
 have hgp:GP g w':=by
  obtain⟨w0,h1,h2,h3⟩:=h.gp
  exact⟨w0,h1,h2,h3.trans (hB.mono h2)⟩
 obtain⟨ta2,tc2,h1,h2,h3⟩:=h.blk
 rw[hk]at h1
 injection h1 with h1
 simp only[Obj.cells.injEq,Array.mk.injEq,List.cons.injEq,Value.slice.injEq]at h1
 obtain⟨⟨⟨rfl,_,rfl⟩,_⟩,_⟩:=h1
 refine⟨hr.trans h.suf,h.len,h.ok,hgp,ta,tc,by rw[← hm];exact hk',?_,h3⟩
 obtain⟨b,o,f1,f2⟩:=h2.at_
 refine⟨h2.cap,h2.max,b,o,fun hn=>⟨(f1 hn).1,B1 (f1 hn).2 hB.size⟩,fun j i x u hx hu=>?_⟩
 have hne:l≠[]:=by intro h0;rw[h0]at hx;simp at hx
 have hb:=h3 _ (f1 hne).1
 exact (Dh (w:=w) (hB.block b hb)).trans (f2 j i x u hx hu)
theorem PS.of {g:Nat}{l r r':List Tok}{w w':A9}{ta:Option Ao}{tc:Nat}{v:Ah}{m:Int} (h:PS g l r w) (hk:w.heap[g]?=A2 (.cells #[.slice ta l.length tc,v] 129 (0,0))) (hF:Fr g w w') (hr:r' <:+ r)
  (hk':w'.heap[g]?=A2 (.cells #[.slice ta l.length tc,.int .i64 m] 129 (0,0))) (hm:m=((l.length - r'.length:Nat):Int)):PS g l r' w' :=
 h.of' hk (hF.below (An _) h.lt) hr hk' hm
end Qr
end
section
attribute [local go_sem] Qr.run_tok0 Qr.run_tok1 Qr.run_tok2
theorem Qr.KA.nil (B:Nat) (w:A9):Qr.KA B w A4 0 [] :=
 ⟨[],rfl,fun j k cs h=>by simp at h,⟨An _,by simp,0,0,fun h=>absurd rfl h,fun j i x u h=>by simp at h⟩,fun h=>absurd rfl h⟩
end
namespace Qr
def YR (x:Option Nat) (e:Ending):Prop:=match x with
 | some n=>e=.returned (.int .i64 (n:Int))
 | none=>e=.panicked [{ v:=wrongP,recovered:=false }]
end Qr
theorem year_c (s:ByteArray) (w:A9) (hs:s.size≤281474976710656) (hG:G w) :
  Ac A3 308 #[.string s] w fun e w'=>Qr.YR (IW s.data.toList) e∧A6 w.heap.size w w':=by
 have HL:=J (Ak s)
 obtain⟨ln,hln⟩:∃ ln,s.size=ln:=⟨_,rfl⟩
 go_enter Tryz.func308,Tryz.ntmps308
 go_wp2_with fail
 refine (Atoi_c s _ hs hG).mono ?_
 rintro e w1 ⟨v,err,rfl,hb1,herr⟩
 rcases herr with⟨rfl,h1⟩ | ⟨t,p,rfl,h1⟩
 ·obtain⟨hv1,hv2⟩:=Tx.atoi_bound h1
  have HA:=J h1;clear h1
  by_cases hlen:(4:Int)<s.size
  ·have HN:Hid (IW s.data.toList=A4):=J (by unfold IW;rw[if_pos (by rw[← HL.out];omega)])
   go_wp2
   refine⟨rfl,?_,hb1⟩
   rw[HN.out]
   rfl
  ·have HY:Hid (IW s.data.toList=Nm.num s.data.toList):=J (by unfold IW;rw[if_neg (by rw[← HL.out];omega)])
   have HLE:Hid (s.data.toList.length≤4):=J (by rw[← HL.out];omega)
   obtain⟨b,hb⟩:∃ b,(Lib.itoa v == s.toList)=b:=⟨_,rfl⟩
   cases b with
   | false =>
    have hne:Lib.itoa v≠s.data.toList:=by
     rw[AA]at hb
     simpa using hb
    have hn:Nm.num s.data.toList=A4:=by
     cases hn:Nm.num s.data.toList with
     | none=>rfl
     | some n =>
      exfalso
      have h2:=HA.out
      rw[Nm.atoi_num hn]at h2
      injection h2 with h2
      exact hne (by rw[← h2];exact Nm.itoa_num hn)
    have HN:Hid (IW s.data.toList=A4):=J (by rw[HY.out,hn])
    clear hn hne
    go_wp2_with (go_at_call 311;refine (Itoa_c v _ hv1 hv2 (hG.below hb1)).mono ?_;rintro e w2 ⟨rfl,hb2⟩)
    refine⟨rfl,?_,hb1.trans (hb2.mono hb1.size)⟩
    rw[HN.out]
    rfl
   | true =>
    have heq:Lib.itoa v=s.data.toList:=by
     rw[AA]at hb
     simpa using hb
    have HE:=J heq;clear heq
    by_cases hv0:v<0
    ·have hn:Nm.num s.data.toList=A4:=by
      cases hn:Nm.num s.data.toList with
      | none=>rfl
      | some n =>
       exfalso
       have h2:=HA.out
       rw[Nm.atoi_num hn]at h2
       injection h2 with h2
       omega
     have HN:Hid (IW s.data.toList=A4):=J (by rw[HY.out,hn])
     clear hn
     go_wp2_with (go_at_call 311;refine (Itoa_c v _ hv1 hv2 (hG.below hb1)).mono ?_;rintro e w2 ⟨rfl,hb2⟩)
     refine⟨rfl,?_,hb1.trans (hb2.mono hb1.size)⟩
     rw[HN.out]
     rfl
    ·have hn:=Nm.num_of_atoi (by omega) (AK HLE.out (by omega)) HE.out
     have HN:Hid (IW s.data.toList=A2 v.toNat):=J (by rw[HY.out,hn])
     have hz:((v.toNat:Nat):Int)=v:=Int.toNat_of_nonneg (by omega)
     have HZ:=J hz;clear hz hn
     go_wp2_with (go_at_call 311;refine (Itoa_c v _ hv1 hv2 (hG.below hb1)).mono ?_;rintro e w2 ⟨rfl,hb2⟩)
     go_ret
     rw[HN.out]
     exact⟨Tx.ret1 HZ.out.symm,hb1.trans (hb2.mono hb1.size)⟩
 ·have hnone:Nm.num s.data.toList=A4:=by
   cases hn:Nm.num s.data.toList with
   | none=>rfl
   | some n=>exact (h1 _ (Nm.atoi_num hn)).elim
  have HN:Hid (IW s.data.toList=A4):=J (by unfold IW;rw[hnone];split <;> rfl)
  clear hnone h1
  go_wp2
  refine⟨rfl,?_,hb1⟩
  rw[HN.out]
  rfl
end Go.Proofs.YtlakomilichhnaaGreatDoor
